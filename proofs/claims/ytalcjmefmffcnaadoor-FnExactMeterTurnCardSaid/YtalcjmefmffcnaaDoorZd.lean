/-
  The walk of the statement that compares MeterTurn with the reference's: it returns true, for all arguments.
-/
import Derived.Test.YtalcjmefmffcnaaDoorQz
import Derived.Test.YtalcjmefmffcnaaDoorYc
namespace Go.Proofs.YtalcjmefmffcnaaDoor
set_option linter.unusedSimpArgs false
set_option linter.unusedVariables false
open Go.RowKit
attribute [local go_sem ↓] Go.wp_at_zero Go.wp_at_succ
set_option maxRecDepth 100000 in
set_option maxHeartbeats 8000000 in
theorem fnExactMeterTurn_walk (m : Mt) (fr st : Sta) (n : Int) (w : World) (hGO : GO w) (hGZ : GZ w) (hGT : GT w) :
    Calls Tryd.prog 10 #[mtv m, stv fr, stv st, .int .i64 n] w fun e w' => e = .returned (.bool true) ∧ Below w.heap.size w w' := by
  obtain ⟨rs, ok, hq⟩ : ∃ rs ok, (turnM m fr st n).getD [] = rs ∧ (turnM m fr st n).isSome = ok := ⟨_, _, rfl, rfl⟩
  have hrl : rs.length ≤ 16 := by rw [← hq.1]; exact turn_len m fr st n
  have HC := Lib.hid hq
  clear hq
  go_enter Tryd.func10, Tryd.ntmps10
  obtain ⟨W0, hW0, hP⟩ : ∃ W, W = ((w.alloc (.cells #[.int .i64 m.a.re, .int .i64 m.a.im, .int .i64 m.a.den, .int .i64 m.b.re, .int .i64 m.b.im, .int .i64 m.b.den, .int .i64 m.c.re, .int .i64 m.c.im, .int .i64 m.c.den, .int .i64 m.d.re, .int .i64 m.d.im, .int .i64 m.d.den] 58)).alloc (.cells #[.int .i64 fr.p, .int .i64 fr.q] 23)).alloc (.cells #[.int .i64 st.p, .int .i64 st.q] 23) ∧ MH w ([] ++ [(w.heap.size, mtc m, 58)] ++ [(w.heap.size + 1, #[.int .i64 fr.p, .int .i64 fr.q], 23)] ++ [(w.heap.size + 1 + 1, #[.int .i64 st.p, .int .i64 st.q], 23)]) W := by
    have h0 := (((MH.start (w := w)).alloc (cs := mtc m) (ty := 58)).alloc (cs := #[.int .i64 fr.p, .int .i64 fr.q]) (ty := 23)).alloc (cs := #[.int .i64 st.p, .int .i64 st.q]) (ty := 23)
    simp only [World.size_alloc] at h0
    exact ⟨_, rfl, h0⟩
  go_upto_region 1 with fail
  rw [← hW0]
  clear hW0
  go_upto_region 1 with fail
  go_cut [9, 10] from 17 to 27 (fun s6 s7 W => s7 = .bool ok ∧ OwF W0.heap.size s6 rs W ∧ Below W0.heap.size W0 W)
  case first =>
    have hSx : ∀ W, Below W0.heap.size W0 W → W.cell? ⟨w.heap.size, 0, none⟩ = some (.int .i64 m.a.re) ∧ W.cell? ⟨w.heap.size, 1, none⟩ = some (.int .i64 m.a.im) ∧ W.cell? ⟨w.heap.size, 2, none⟩ = some (.int .i64 m.a.den) ∧ W.cell? ⟨w.heap.size, 3, none⟩ = some (.int .i64 m.b.re) ∧ W.cell? ⟨w.heap.size, 4, none⟩ = some (.int .i64 m.b.im) ∧ W.cell? ⟨w.heap.size, 5, none⟩ = some (.int .i64 m.b.den) ∧ W.cell? ⟨w.heap.size, 6, none⟩ = some (.int .i64 m.c.re) ∧ W.cell? ⟨w.heap.size, 7, none⟩ = some (.int .i64 m.c.im) ∧ W.cell? ⟨w.heap.size, 8, none⟩ = some (.int .i64 m.c.den) ∧ W.cell? ⟨w.heap.size, 9, none⟩ = some (.int .i64 m.d.re) ∧ W.cell? ⟨w.heap.size, 10, none⟩ = some (.int .i64 m.d.im) ∧ W.cell? ⟨w.heap.size, 11, none⟩ = some (.int .i64 m.d.den) ∧ W.cell? ⟨w.heap.size + 1, 0, none⟩ = some (.int .i64 fr.p) ∧ W.cell? ⟨w.heap.size + 1, 1, none⟩ = some (.int .i64 fr.q) ∧ W.cell? ⟨w.heap.size + 1 + 1, 0, none⟩ = some (.int .i64 st.p) ∧ W.cell? ⟨w.heap.size + 1 + 1, 1, none⟩ = some (.int .i64 st.q) := fun W h => by
      have hQ := hP.call h
      obtain ⟨p0, p1, p2, p3, p4, p5, p6, p7, p8, p9, p10, p11⟩ := blk_m (hQ.at (b := w.heap.size) (cs := mtc m) (ty := 58) (by simp))
      have h1 := hQ.at (b := w.heap.size + 1) (cs := #[.int .i64 fr.p, .int .i64 fr.q]) (ty := 23) (by simp)
      have h2 := hQ.at (b := w.heap.size + 1 + 1) (cs := #[.int .i64 st.p, .int .i64 st.q]) (ty := 23) (by simp)
      exact ⟨p0, p1, p2, p3, p4, p5, p6, p7, p8, p9, p10, p11, by simp [World.cell?, h1], by simp [World.cell?, h1], by simp [World.cell?, h2], by simp [World.cell?, h2]⟩
    have hB := hP.B
    have hz0 : W0.heap.size ≤ W0.heap.size := Nat.le_refl _
    have hbp : Below W0.heap.size W0 W0 := Below.refl _ _
    go_region_held3 (fun W => W.cell? ⟨w.heap.size, 0, none⟩ = some (.int .i64 m.a.re) ∧ W.cell? ⟨w.heap.size, 1, none⟩ = some (.int .i64 m.a.im) ∧ W.cell? ⟨w.heap.size, 2, none⟩ = some (.int .i64 m.a.den) ∧ W.cell? ⟨w.heap.size, 3, none⟩ = some (.int .i64 m.b.re) ∧ W.cell? ⟨w.heap.size, 4, none⟩ = some (.int .i64 m.b.im) ∧ W.cell? ⟨w.heap.size, 5, none⟩ = some (.int .i64 m.b.den) ∧ W.cell? ⟨w.heap.size, 6, none⟩ = some (.int .i64 m.c.re) ∧ W.cell? ⟨w.heap.size, 7, none⟩ = some (.int .i64 m.c.im) ∧ W.cell? ⟨w.heap.size, 8, none⟩ = some (.int .i64 m.c.den) ∧ W.cell? ⟨w.heap.size, 9, none⟩ = some (.int .i64 m.d.re) ∧ W.cell? ⟨w.heap.size, 10, none⟩ = some (.int .i64 m.d.im) ∧ W.cell? ⟨w.heap.size, 11, none⟩ = some (.int .i64 m.d.den) ∧ W.cell? ⟨w.heap.size + 1, 0, none⟩ = some (.int .i64 fr.p) ∧ W.cell? ⟨w.heap.size + 1, 1, none⟩ = some (.int .i64 fr.q) ∧ W.cell? ⟨w.heap.size + 1 + 1, 0, none⟩ = some (.int .i64 st.p) ∧ W.cell? ⟨w.heap.size + 1 + 1, 1, none⟩ = some (.int .i64 st.q)) ((refine hSx _ ?_; exact below_)) (first
      | (go_at_call 35; (with_reducible refine (toStk_any m _).mono ?_); rintro e wA ⟨rfl, hb⟩; have hbA : Below W0.heap.size W0 wA := bstep (by exact below_) hb side_; have hBA : Below w.heap.size w wA := bstep hB hbA hB.size; have hzA := hbA.size; clear hb)
      | (go_at_call 15; (with_reducible refine (toSta_T fr _).mono ?_); rintro e wB ⟨rfl, hb⟩; have hbB : Below W0.heap.size W0 wB := bstep (by exact below_) hb side_; have hBB : Below w.heap.size w wB := bstep hB hbB hB.size; have hzB := hbB.size; clear hb)
      | (go_at_call 15; (with_reducible refine (toSta_T st _).mono ?_); rintro e wC ⟨rfl, hb⟩; have hbC : Below W0.heap.size W0 wC := bstep (by exact below_) hb side_; have hBC : Below w.heap.size w wC := bstep hB hbC hB.size; have hzC := hbC.size; clear hb)
      | (go_at_call 34; (with_reducible refine (sturn_m m fr st n rs ok _ HC).mono ?_); rintro e wD ⟨v6, rfl, O6, hb⟩; have hbD : Below W0.heap.size W0 wD := bstep (by exact below_) hb side_; have O6 := O6.mono (base' := W0.heap.size) side_; clear hb))
    all_goals (try go_wp2)
    all_goals (go_meet; exact ⟨rfl, O6, by exact below_⟩)
  rename World => w4
  obtain ⟨q7, On, hb⟩ := hcut
  subst q7
  have hlt3 : ∀ q ∈ ([] ++ [(w.heap.size, mtc m, 58)] ++ [(w.heap.size + 1, #[.int .i64 fr.p, .int .i64 fr.q], 23)] ++ [(w.heap.size + 1 + 1, #[.int .i64 st.p, .int .i64 st.q], 23)] : List (Nat × Array Value × TypeId)), q.1 < w4.heap.size := fun q hq => by have := blk_lt (hP.g q hq).2; have := hb.size; omega
  have hP := hP.call hb
  have hz4 := hP.B.size
  have hx14 := hb.size
  clear hb
  obtain ⟨n1, hn1⟩ : ∃ n, n = rs.length := ⟨_, rfl⟩
  have HN := Lib.hid hn1
  rw [← hn1] at hrl
  clear hn1
  obtain ⟨A6, c6, rfl, -⟩ := On.frs
  have O6 := On
  clear On
  rw [← HN.out] at O6 ⊢
  have h6 : ∀ k, Value.ownBlock (.slice A6 n1 c6) = some k → k < w4.heap.size := fun k e => (O6.lt k e).2
  go_upto_region 2 with fail
  go_cut [11, 12] from 28 to 38 (fun s6 s7 W => s7 = .bool ok ∧ OwF w4.heap.size s6 rs W ∧ Below w4.heap.size w4 W)
  case first =>
    have hSx : ∀ W, Below w4.heap.size w4 W → W.cell? ⟨w.heap.size, 0, none⟩ = some (.int .i64 m.a.re) ∧ W.cell? ⟨w.heap.size, 1, none⟩ = some (.int .i64 m.a.im) ∧ W.cell? ⟨w.heap.size, 2, none⟩ = some (.int .i64 m.a.den) ∧ W.cell? ⟨w.heap.size, 3, none⟩ = some (.int .i64 m.b.re) ∧ W.cell? ⟨w.heap.size, 4, none⟩ = some (.int .i64 m.b.im) ∧ W.cell? ⟨w.heap.size, 5, none⟩ = some (.int .i64 m.b.den) ∧ W.cell? ⟨w.heap.size, 6, none⟩ = some (.int .i64 m.c.re) ∧ W.cell? ⟨w.heap.size, 7, none⟩ = some (.int .i64 m.c.im) ∧ W.cell? ⟨w.heap.size, 8, none⟩ = some (.int .i64 m.c.den) ∧ W.cell? ⟨w.heap.size, 9, none⟩ = some (.int .i64 m.d.re) ∧ W.cell? ⟨w.heap.size, 10, none⟩ = some (.int .i64 m.d.im) ∧ W.cell? ⟨w.heap.size, 11, none⟩ = some (.int .i64 m.d.den) ∧ W.cell? ⟨w.heap.size + 1, 0, none⟩ = some (.int .i64 fr.p) ∧ W.cell? ⟨w.heap.size + 1, 1, none⟩ = some (.int .i64 fr.q) ∧ W.cell? ⟨w.heap.size + 1 + 1, 0, none⟩ = some (.int .i64 st.p) ∧ W.cell? ⟨w.heap.size + 1 + 1, 1, none⟩ = some (.int .i64 st.q) := fun W h => by
      have hQ := hP.call h
      obtain ⟨p0, p1, p2, p3, p4, p5, p6, p7, p8, p9, p10, p11⟩ := blk_m (hQ.at (b := w.heap.size) (cs := mtc m) (ty := 58) (by simp))
      have h1 := hQ.at (b := w.heap.size + 1) (cs := #[.int .i64 fr.p, .int .i64 fr.q]) (ty := 23) (by simp)
      have h2 := hQ.at (b := w.heap.size + 1 + 1) (cs := #[.int .i64 st.p, .int .i64 st.q]) (ty := 23) (by simp)
      exact ⟨p0, p1, p2, p3, p4, p5, p6, p7, p8, p9, p10, p11, by simp [World.cell?, h1], by simp [World.cell?, h1], by simp [World.cell?, h2], by simp [World.cell?, h2]⟩
    have hB := hP.B
    have hz0 : w4.heap.size ≤ w4.heap.size := Nat.le_refl _
    have hbp : Below w4.heap.size w4 w4 := Below.refl _ _
    go_region_held3 (fun W => W.cell? ⟨w.heap.size, 0, none⟩ = some (.int .i64 m.a.re) ∧ W.cell? ⟨w.heap.size, 1, none⟩ = some (.int .i64 m.a.im) ∧ W.cell? ⟨w.heap.size, 2, none⟩ = some (.int .i64 m.a.den) ∧ W.cell? ⟨w.heap.size, 3, none⟩ = some (.int .i64 m.b.re) ∧ W.cell? ⟨w.heap.size, 4, none⟩ = some (.int .i64 m.b.im) ∧ W.cell? ⟨w.heap.size, 5, none⟩ = some (.int .i64 m.b.den) ∧ W.cell? ⟨w.heap.size, 6, none⟩ = some (.int .i64 m.c.re) ∧ W.cell? ⟨w.heap.size, 7, none⟩ = some (.int .i64 m.c.im) ∧ W.cell? ⟨w.heap.size, 8, none⟩ = some (.int .i64 m.c.den) ∧ W.cell? ⟨w.heap.size, 9, none⟩ = some (.int .i64 m.d.re) ∧ W.cell? ⟨w.heap.size, 10, none⟩ = some (.int .i64 m.d.im) ∧ W.cell? ⟨w.heap.size, 11, none⟩ = some (.int .i64 m.d.den) ∧ W.cell? ⟨w.heap.size + 1, 0, none⟩ = some (.int .i64 fr.p) ∧ W.cell? ⟨w.heap.size + 1, 1, none⟩ = some (.int .i64 fr.q) ∧ W.cell? ⟨w.heap.size + 1 + 1, 0, none⟩ = some (.int .i64 st.p) ∧ W.cell? ⟨w.heap.size + 1 + 1, 1, none⟩ = some (.int .i64 st.q)) ((refine hSx _ ?_; exact below_)) (first
      | (go_at_call 35; (with_reducible refine (toStk_any m _).mono ?_); rintro e wA ⟨rfl, hb⟩; have hbA : Below w4.heap.size w4 wA := bstep (by exact below_) hb side_; have hBA : Below w.heap.size w wA := bstep hB hbA hB.size; have hzA := hbA.size; clear hb)
      | (go_at_call 15; (with_reducible refine (toSta_T fr _).mono ?_); rintro e wB ⟨rfl, hb⟩; have hbB : Below w4.heap.size w4 wB := bstep (by exact below_) hb side_; have hBB : Below w.heap.size w wB := bstep hB hbB hB.size; have hzB := hbB.size; clear hb)
      | (go_at_call 15; (with_reducible refine (toSta_T st _).mono ?_); rintro e wC ⟨rfl, hb⟩; have hbC : Below w4.heap.size w4 wC := bstep (by exact below_) hb side_; have hBC : Below w.heap.size w wC := bstep hB hbC hB.size; have hzC := hbC.size; clear hb)
      | (go_at_call 36; (with_reducible refine (turn_m m fr st n rs ok _ (hGO.below (by exact below_)) (hGZ.below (by exact below_)) (hGT.below (by exact below_)) HC).mono ?_); rintro e wD ⟨v6, rfl, O6, hb⟩; have hbD : Below w4.heap.size w4 wD := bstep (by exact below_) hb side_; have O6 := O6.mono (base' := w4.heap.size) side_; clear hb))
    all_goals (try go_wp2)
    all_goals (go_meet; exact ⟨rfl, O6, by exact below_⟩)
  rename World => w7
  obtain ⟨q7, On, hb⟩ := hcut
  subst q7
  have hP := hP.call hb
  have O6 := O6.below hb
  clear hb
  obtain ⟨A9, c9, rfl, -⟩ := On.frs
  have O9 := On
  clear On
  rw [← HN.out] at O9 ⊢
  go_wp2_with (go_at_call 37; (with_reducible refine (eqFrs_refl A9 A6 n1 c9 c6 rs _ O9.frsT O6.frsT).mono ?_); rintro e w8 ⟨rfl, hb⟩; refine Hid.out ?_)
  refine Lib.hid ?_
  have hP := hP.call hb
  have O6 := O6.below hb
  have O9 := O9.below hb
  clear hb
  go_wp2_with (go_at_call 38; (with_reducible refine (markF_any _ (.slice A9 n1 c9) rs _ O9 (by rw [← HN.out]; omega)).mono ?_); rintro e w13 ⟨rfl, O9m, hg⟩; refine Hid.out ?_)
  refine Lib.hid ?_
  rw [← HN.out] at O9m ⊢
  have hl9 : ∀ k, Value.ownBlock (.slice A9 n1 c9) = some k → w4.heap.size ≤ k := fun k e => (O9.lt k e).1
  have O6 := O6.grown hg (own_neT h6 hl9)
  have hP : MH w _ w13 := ⟨hP.B.grown hg hP.B.size (fun k e => by have := hl9 k e; omega), fun q hq => ⟨(hP.g q hq).1, (hg.block _ (blk_lt (hP.g q hq).2) (fun e => by have := hl9 _ e.symm; have h3 := hlt3 q hq; omega)).trans (hP.g q hq).2⟩⟩
  have hk2 : ¬ (3 * (n1 : Int) + 1 < 0) := by omega
  clear hg O9 hl9
  go_wp2_with (go_at_call 39; (with_reducible refine (heldF_any A9 n1 c9 _ O9m.frsT (by omega)).mono ?_); rintro e w14 ⟨rfl, hb⟩; refine Hid.out ?_)
  refine Lib.hid ?_
  have hP := hP.call hb
  have O6 := O6.below hb
  have O9m := O9m.below hb
  clear hb
  go_upto_region 13 with fail
  go_cut [15, 16] from 59 to 69 (fun s6 s7 W => s7 = .bool ok ∧ OwF w14.heap.size s6 rs W ∧ Below w14.heap.size w14 W)
  case first =>
    have hSx : ∀ W, Below w14.heap.size w14 W → W.cell? ⟨w.heap.size, 0, none⟩ = some (.int .i64 m.a.re) ∧ W.cell? ⟨w.heap.size, 1, none⟩ = some (.int .i64 m.a.im) ∧ W.cell? ⟨w.heap.size, 2, none⟩ = some (.int .i64 m.a.den) ∧ W.cell? ⟨w.heap.size, 3, none⟩ = some (.int .i64 m.b.re) ∧ W.cell? ⟨w.heap.size, 4, none⟩ = some (.int .i64 m.b.im) ∧ W.cell? ⟨w.heap.size, 5, none⟩ = some (.int .i64 m.b.den) ∧ W.cell? ⟨w.heap.size, 6, none⟩ = some (.int .i64 m.c.re) ∧ W.cell? ⟨w.heap.size, 7, none⟩ = some (.int .i64 m.c.im) ∧ W.cell? ⟨w.heap.size, 8, none⟩ = some (.int .i64 m.c.den) ∧ W.cell? ⟨w.heap.size, 9, none⟩ = some (.int .i64 m.d.re) ∧ W.cell? ⟨w.heap.size, 10, none⟩ = some (.int .i64 m.d.im) ∧ W.cell? ⟨w.heap.size, 11, none⟩ = some (.int .i64 m.d.den) ∧ W.cell? ⟨w.heap.size + 1, 0, none⟩ = some (.int .i64 fr.p) ∧ W.cell? ⟨w.heap.size + 1, 1, none⟩ = some (.int .i64 fr.q) ∧ W.cell? ⟨w.heap.size + 1 + 1, 0, none⟩ = some (.int .i64 st.p) ∧ W.cell? ⟨w.heap.size + 1 + 1, 1, none⟩ = some (.int .i64 st.q) := fun W h => by
      have hQ := hP.call h
      obtain ⟨p0, p1, p2, p3, p4, p5, p6, p7, p8, p9, p10, p11⟩ := blk_m (hQ.at (b := w.heap.size) (cs := mtc m) (ty := 58) (by simp))
      have h1 := hQ.at (b := w.heap.size + 1) (cs := #[.int .i64 fr.p, .int .i64 fr.q]) (ty := 23) (by simp)
      have h2 := hQ.at (b := w.heap.size + 1 + 1) (cs := #[.int .i64 st.p, .int .i64 st.q]) (ty := 23) (by simp)
      exact ⟨p0, p1, p2, p3, p4, p5, p6, p7, p8, p9, p10, p11, by simp [World.cell?, h1], by simp [World.cell?, h1], by simp [World.cell?, h2], by simp [World.cell?, h2]⟩
    have hB := hP.B
    have hz0 : w14.heap.size ≤ w14.heap.size := Nat.le_refl _
    have hbp : Below w14.heap.size w14 w14 := Below.refl _ _
    go_region_held3 (fun W => W.cell? ⟨w.heap.size, 0, none⟩ = some (.int .i64 m.a.re) ∧ W.cell? ⟨w.heap.size, 1, none⟩ = some (.int .i64 m.a.im) ∧ W.cell? ⟨w.heap.size, 2, none⟩ = some (.int .i64 m.a.den) ∧ W.cell? ⟨w.heap.size, 3, none⟩ = some (.int .i64 m.b.re) ∧ W.cell? ⟨w.heap.size, 4, none⟩ = some (.int .i64 m.b.im) ∧ W.cell? ⟨w.heap.size, 5, none⟩ = some (.int .i64 m.b.den) ∧ W.cell? ⟨w.heap.size, 6, none⟩ = some (.int .i64 m.c.re) ∧ W.cell? ⟨w.heap.size, 7, none⟩ = some (.int .i64 m.c.im) ∧ W.cell? ⟨w.heap.size, 8, none⟩ = some (.int .i64 m.c.den) ∧ W.cell? ⟨w.heap.size, 9, none⟩ = some (.int .i64 m.d.re) ∧ W.cell? ⟨w.heap.size, 10, none⟩ = some (.int .i64 m.d.im) ∧ W.cell? ⟨w.heap.size, 11, none⟩ = some (.int .i64 m.d.den) ∧ W.cell? ⟨w.heap.size + 1, 0, none⟩ = some (.int .i64 fr.p) ∧ W.cell? ⟨w.heap.size + 1, 1, none⟩ = some (.int .i64 fr.q) ∧ W.cell? ⟨w.heap.size + 1 + 1, 0, none⟩ = some (.int .i64 st.p) ∧ W.cell? ⟨w.heap.size + 1 + 1, 1, none⟩ = some (.int .i64 st.q)) ((refine hSx _ ?_; exact below_)) (first
      | (go_at_call 35; (with_reducible refine (toStk_any m _).mono ?_); rintro e wA ⟨rfl, hb⟩; have hbA : Below w14.heap.size w14 wA := bstep (by exact below_) hb side_; have hBA : Below w.heap.size w wA := bstep hB hbA hB.size; have hzA := hbA.size; clear hb)
      | (go_at_call 15; (with_reducible refine (toSta_T fr _).mono ?_); rintro e wB ⟨rfl, hb⟩; have hbB : Below w14.heap.size w14 wB := bstep (by exact below_) hb side_; have hBB : Below w.heap.size w wB := bstep hB hbB hB.size; have hzB := hbB.size; clear hb)
      | (go_at_call 15; (with_reducible refine (toSta_T st _).mono ?_); rintro e wC ⟨rfl, hb⟩; have hbC : Below w14.heap.size w14 wC := bstep (by exact below_) hb side_; have hBC : Below w.heap.size w wC := bstep hB hbC hB.size; have hzC := hbC.size; clear hb)
      | (go_at_call 36; (with_reducible refine (turn_m m fr st n rs ok _ (hGO.below (by exact below_)) (hGZ.below (by exact below_)) (hGT.below (by exact below_)) HC).mono ?_); rintro e wD ⟨v6, rfl, O6, hb⟩; have hbD : Below w14.heap.size w14 wD := bstep (by exact below_) hb side_; have O6 := O6.mono (base' := w14.heap.size) side_; clear hb))
    all_goals (try go_wp2)
    all_goals (go_meet; exact ⟨rfl, O6, by exact below_⟩)
  rename World => w17
  obtain ⟨q7, On, hb⟩ := hcut
  subst q7
  have hP := hP.call hb
  have O6 := O6.below hb
  have O9m := O9m.below hb
  clear hb
  obtain ⟨Ah, ch, rfl, -⟩ := On.frs
  have Oh := On
  clear On
  rw [← HN.out] at Oh ⊢
  go_wp2_with (go_at_call 37; (with_reducible refine (eqFrs_refl Ah A6 n1 ch c6 rs _ Oh.frsT O6.frsT).mono ?_); rintro e w18 ⟨rfl, hb⟩; refine Hid.out ?_)
  refine Lib.hid ?_
  have hP := hP.call hb
  have O9m := O9m.below hb
  clear hb Oh O6
  go_wp2_with (go_at_call 39; (with_reducible refine (heldF_any A9 n1 c9 _ O9m.frsT (by omega)).mono ?_); rintro e w19 ⟨rfl, hb⟩; have hB19 : Below w.heap.size w w19 := bstep hP.B hb hP.B.size; clear hb)
  go_ret
  exact ⟨rfl, by exact below_⟩
end Go.Proofs.YtalcjmefmffcnaaDoor
