/-
  The walk of the statement that compares MeterRead with the reference's: it returns true, for all lists and all four numbers.
-/
import Derived.Test.YtalcjmefmffcnaaDoorYb
import Derived.Test.YtalcjmefmffcnaaDoorYc
import Derived.Test.YtalcjmefmffcnaaDoorPh
namespace Go.Proofs.YtalcjmefmffcnaaDoor
set_option linter.unusedSimpArgs false
set_option linter.unusedVariables false
open Go.RowKit
attribute [local go_sem ↓] Go.wp_at_zero Go.wp_at_succ
theorem OwF.frsK {base n cap : Nat} {A : Option Addr} {xs : List Fr} {w : World} (h : OwF base (.slice A n cap) xs w) : Frs A n cap xs w := by
  obtain ⟨A1, c1, e, hF⟩ := h.frs
  simp only [Value.slice.injEq] at e
  obtain ⟨rfl, rfl, rfl⟩ := e
  exact hF
theorem OwA.frsN {base n cap : Nat} {A : Option Addr} {xs : List Sta} {w : World} (h : OwA base (.slice A n cap) xs w) : Sas A n cap xs w := by
  obtain ⟨A1, c1, e, hF⟩ := h.frs
  simp only [Value.slice.injEq] at e
  obtain ⟨rfl, rfl, rfl⟩ := e
  exact hF
theorem own_ne {a b : Option Nat} {n : Nat} (h1 : ∀ k, a = some k → k < n) (h2 : ∀ k, b = some k → n ≤ k) : a = none ∨ a ≠ b := by
  cases a with
  | none => exact .inl rfl
  | some k =>
    refine .inr fun e => ?_
    have := h1 k rfl
    have := h2 k e.symm
    omega
theorem own_ne2 {a b : Option Nat} {n : Nat} (h1 : ∀ k, a = some k → n ≤ k) (h2 : ∀ k, b = some k → k < n) : a = none ∨ a ≠ b := by
  cases a with
  | none => exact .inl rfl
  | some k =>
    refine .inr fun e => ?_
    have := h1 k rfl
    have := h2 k e.symm
    omega
theorem read_m (A : Option Addr) (len cap : Nat) (xs : List Sta) (m : Mt) (rs : List Fr) (ok : Bool) (w : World) (hS : Sas A len cap xs w) (hO : GO w) (hZ : GZ w) (hT : GT w) (e : Hid ((readM xs m).getD [] = rs ∧ (readM xs m).isSome = ok)) :
    Calls Tryd.prog 41 #[.slice A len cap, mtv m] w fun e w' => ∃ v, e = .returned (.tuple #[v, .bool ok]) ∧ OwF w.heap.size v rs w' ∧ Below w.heap.size w w' := by
  rw [← e.out.1, ← e.out.2]
  exact (read_any A len cap xs m w hS hO hZ hT).mono fun e w' ⟨⟨v, h1, h2⟩, h3⟩ => ⟨v, h1, h2, h3⟩
theorem sread_m (A : Option Addr) (len cap : Nat) (xs : List Sta) (m : Mt) (rs : List Fr) (ok : Bool) (w : World) (hS : Sas A len cap xs w) (e : Hid ((readM xs m).getD [] = rs ∧ (readM xs m).isSome = ok)) :
    Calls Tryd.prog 40 #[.slice A len cap, mtv m] w fun e w' => ∃ v, e = .returned (.tuple #[v, .bool ok]) ∧ OwF w.heap.size v rs w' ∧ Below w.heap.size w w' := by
  rw [← e.out.1, ← e.out.2]
  exact (sread_any A len cap xs m w hS).mono fun e w' ⟨⟨v, h1, h2⟩, h3⟩ => ⟨v, h1, h2, h3⟩
theorem read_len {xs : List Sta} {m : Mt} : ((readM xs m).getD []).length ≤ 16 := by
  cases h : readM xs m with
  | none => simp
  | some rs =>
    obtain ⟨h1, -, -, rfl⟩ := read_some h
    simpa using h1
set_option maxRecDepth 100000 in
set_option maxHeartbeats 8000000 in
theorem fnExactMeterRead_walk (A : Option Addr) (len cap : Nat) (xs : List Sta) (m : Mt) (w : World) (hS0 : Sas A len cap xs w) (hGO : GO w) (hGZ : GZ w) (hGT : GT w) :
    Calls Tryd.prog 11 #[.slice A len cap, mtv m] w fun e w' => e = .returned (.bool true) ∧ Below w.heap.size w w' := by
  have hcap := hS0.2.2.1
  have hlc := hS0.2.1
  have hxl := hS0.1
  obtain ⟨rs, ok, hq⟩ : ∃ rs ok, (readM xs m).getD [] = rs ∧ (readM xs m).isSome = ok := ⟨_, _, rfl, rfl⟩
  have hrl : rs.length ≤ 16 := by rw [← hq.1]; exact read_len
  have HC := Lib.hid hq
  have HXL := Lib.hid hxl
  have hP : Blk (w.alloc (.cells #[.int .i64 m.a.re, .int .i64 m.a.im, .int .i64 m.a.den, .int .i64 m.b.re, .int .i64 m.b.im, .int .i64 m.b.den, .int .i64 m.c.re, .int .i64 m.c.im, .int .i64 m.c.den, .int .i64 m.d.re, .int .i64 m.d.im, .int .i64 m.d.den] 58)) w.heap.size (mtc m) 58 := heap_alloc_last w _
  have hB : Below w.heap.size w (w.alloc (.cells #[.int .i64 m.a.re, .int .i64 m.a.im, .int .i64 m.a.den, .int .i64 m.b.re, .int .i64 m.b.im, .int .i64 m.b.den, .int .i64 m.c.re, .int .i64 m.c.im, .int .i64 m.c.den, .int .i64 m.d.re, .int .i64 m.d.im, .int .i64 m.d.den] 58)) := (Below.refl _ _).alloc (Nat.le_refl _) _
  clear hq hxl
  by_cases hbig : 1048576 < len
  · go_enter Tryd.func11, Tryd.ntmps11
    go_wp2_with (go_at_call 30; (with_reducible refine (szA_far A len cap _ hbig (by omega)).mono ?_); rintro e w1 ⟨rfl, hb⟩; have hB1 : Below w.heap.size w w1 := bstep hB hb hB.size; clear hb)
    go_ret
    exact ⟨rfl, hB1⟩
  have hlen : len ≤ 1048576 := by omega
  clear hbig
  go_enter Tryd.func11, Tryd.ntmps11
  go_wp2_with (go_at_call 30; (with_reducible refine (szA_any A len cap 1048576 _ (by omega) (by omega)).mono ?_); rintro e w1 ⟨rfl, hb⟩; refine Hid.out ?_)
  refine Lib.hid ?_
  have hP := (hb.block _ (blk_lt hP)).trans hP
  have hB : Below w.heap.size w w1 := bstep hB hb hB.size
  clear hb
  go_upto_region 5 with fail
  go_cut [6, 7] from 21 to 28 (fun s6 s7 W => s7 = .bool ok ∧ OwF w1.heap.size s6 rs W ∧ Below w1.heap.size w1 W)
  case first =>
    have hSx : ∀ W, Below w1.heap.size w1 W → W.cell? ⟨w.heap.size, 0, none⟩ = some (.int .i64 m.a.re) ∧ W.cell? ⟨w.heap.size, 1, none⟩ = some (.int .i64 m.a.im) ∧ W.cell? ⟨w.heap.size, 2, none⟩ = some (.int .i64 m.a.den) ∧ W.cell? ⟨w.heap.size, 3, none⟩ = some (.int .i64 m.b.re) ∧ W.cell? ⟨w.heap.size, 4, none⟩ = some (.int .i64 m.b.im) ∧ W.cell? ⟨w.heap.size, 5, none⟩ = some (.int .i64 m.b.den) ∧ W.cell? ⟨w.heap.size, 6, none⟩ = some (.int .i64 m.c.re) ∧ W.cell? ⟨w.heap.size, 7, none⟩ = some (.int .i64 m.c.im) ∧ W.cell? ⟨w.heap.size, 8, none⟩ = some (.int .i64 m.c.den) ∧ W.cell? ⟨w.heap.size, 9, none⟩ = some (.int .i64 m.d.re) ∧ W.cell? ⟨w.heap.size, 10, none⟩ = some (.int .i64 m.d.im) ∧ W.cell? ⟨w.heap.size, 11, none⟩ = some (.int .i64 m.d.den) := fun W h => by
      have lo := blk_lt hP
      obtain ⟨p0, p1, p2, p3, p4, p5, p6, p7, p8, p9, p10, p11⟩ := blk_m hP
      exact ⟨(h.cell (p := ⟨_, _, none⟩) lo).trans p0, (h.cell (p := ⟨_, _, none⟩) lo).trans p1, (h.cell (p := ⟨_, _, none⟩) lo).trans p2, (h.cell (p := ⟨_, _, none⟩) lo).trans p3, (h.cell (p := ⟨_, _, none⟩) lo).trans p4, (h.cell (p := ⟨_, _, none⟩) lo).trans p5, (h.cell (p := ⟨_, _, none⟩) lo).trans p6, (h.cell (p := ⟨_, _, none⟩) lo).trans p7, (h.cell (p := ⟨_, _, none⟩) lo).trans p8, (h.cell (p := ⟨_, _, none⟩) lo).trans p9, (h.cell (p := ⟨_, _, none⟩) lo).trans p10, (h.cell (p := ⟨_, _, none⟩) lo).trans p11⟩
    have hz0 : w1.heap.size ≤ w1.heap.size := Nat.le_refl _
    have hbp : Below w1.heap.size w1 w1 := Below.refl _ _
    go_region_held3 (fun W => W.cell? ⟨w.heap.size, 0, none⟩ = some (.int .i64 m.a.re) ∧ W.cell? ⟨w.heap.size, 1, none⟩ = some (.int .i64 m.a.im) ∧ W.cell? ⟨w.heap.size, 2, none⟩ = some (.int .i64 m.a.den) ∧ W.cell? ⟨w.heap.size, 3, none⟩ = some (.int .i64 m.b.re) ∧ W.cell? ⟨w.heap.size, 4, none⟩ = some (.int .i64 m.b.im) ∧ W.cell? ⟨w.heap.size, 5, none⟩ = some (.int .i64 m.b.den) ∧ W.cell? ⟨w.heap.size, 6, none⟩ = some (.int .i64 m.c.re) ∧ W.cell? ⟨w.heap.size, 7, none⟩ = some (.int .i64 m.c.im) ∧ W.cell? ⟨w.heap.size, 8, none⟩ = some (.int .i64 m.c.den) ∧ W.cell? ⟨w.heap.size, 9, none⟩ = some (.int .i64 m.d.re) ∧ W.cell? ⟨w.heap.size, 10, none⟩ = some (.int .i64 m.d.im) ∧ W.cell? ⟨w.heap.size, 11, none⟩ = some (.int .i64 m.d.den)) ((refine hSx _ ?_; exact below_)) (first
      | (go_at_call 31; (with_reducible refine (toSas_any A len cap xs _ (hS0.below (by exact below_)) hlen).mono ?_); rintro e wA ⟨va, rfl, Oa, hb⟩; have hbA : Below w1.heap.size w1 wA := bstep (by exact below_) hb side_; have hBA : Below w.heap.size w wA := bstep hB hbA hB.size; have hzA := hbA.size; obtain ⟨A2, c2, rfl, hSa⟩ := Oa.frs; rw [HXL.out] at hSa ⊢; clear hb Oa)
      | (go_at_call 35; (with_reducible refine (toStk_any m _).mono ?_); rintro e wB ⟨rfl, hb⟩; have hbB : Below w1.heap.size w1 wB := bstep (by exact below_) hb side_; have hBB : Below w.heap.size w wB := bstep hB hbB hB.size; have hzB := hbB.size; (first | have hSb := hSa.below hb | skip); clear hb)
      | (go_at_call 40; (with_reducible refine (sread_m A2 len c2 xs m rs ok _ (by first | exact hSb | exact hSa) HC).mono ?_); rintro e wC ⟨v6, rfl, O6, hb⟩; have hbC : Below w1.heap.size w1 wC := bstep (by exact below_) hb side_; have O6 := O6.mono (base' := w1.heap.size) side_; clear hb))
    all_goals (try go_wp2)
    all_goals (go_meet; exact ⟨rfl, O6, by exact below_⟩)
  rename World => w4
  obtain ⟨q7, On, hb⟩ := hcut
  subst q7
  have hP := (hb.block _ (blk_lt hP)).trans hP
  have hB : Below w.heap.size w w4 := bstep hB hb hB.size
  have hx14 := hb.size
  clear hb
  obtain ⟨A6, c6, rfl, -⟩ := On.frs
  have O6 := On
  clear On
  obtain ⟨n, hn⟩ : ∃ n, n = rs.length := ⟨_, rfl⟩
  rw [← hn] at O6 hrl ⊢
  have HN := Lib.hid hn
  have h6 : ∀ k, Value.ownBlock (.slice A6 n c6) = some k → k < w4.heap.size := fun k e => (O6.lt k e).2
  clear hn
  go_wp2_with (go_at_call 31; (with_reducible refine (toSas_any A len cap xs _ (hS0.below hB) hlen).mono ?_); rintro e w5 ⟨v8, rfl, O8, hb⟩; refine Hid.out ?_)
  refine Lib.hid ?_
  have hz4 := blk_lt hP
  have hz45 := hb.size
  have O6 := O6.below hb
  have hP := (hb.block _ (blk_lt hP)).trans hP
  have hB : Below w.heap.size w w5 := bstep hB hb hB.size
  obtain ⟨A8, c8, rfl, -⟩ := O8.frs
  rw [HXL.out] at O8 ⊢
  obtain ⟨p0, p1, p2, p3, p4, p5, p6, p7, p8, p9, p10, p11⟩ := blk_m hP
  clear hb
  have h8 : ∀ k, Value.ownBlock (.slice A8 len c8) = some k → k < w5.heap.size := fun k e => (O8.lt k e).2
  go_wp2_with (go_at_call 35; (with_reducible refine (toStk_any m _).mono ?_); rintro e w6 ⟨rfl, hb⟩; refine Hid.out ?_)
  refine Lib.hid ?_
  have O6 := O6.below hb
  have O8 := O8.below hb
  have hz5 := hb.size
  have hP := (hb.block _ (blk_lt hP)).trans hP
  have hB : Below w.heap.size w w6 := bstep hB hb hB.size
  clear hb p0 p1 p2 p3 p4 p5 p6 p7 p8 p9 p10 p11
  go_wp2_with (go_at_call 41; (with_reducible refine (read_m A8 len c8 xs m rs ok _ O8.frsN (hGO.below hB) (hGZ.below hB) (hGT.below hB) HC).mono ?_); rintro e w7 ⟨v9, rfl, O9, hb⟩; refine Hid.out ?_)
  refine Lib.hid ?_
  have O6 := O6.below hb
  have O8 := O8.below hb
  have hz7 := hb.size
  have hP := (hb.block _ (blk_lt hP)).trans hP
  have hB : Below w.heap.size w w7 := bstep hB hb hB.size
  clear hb
  obtain ⟨A9, c9, rfl, -⟩ := O9.frs
  rw [← HN.out] at O9 ⊢
  have g6 : ∀ k, Value.ownBlock (.slice A6 n c6) = some k → k < w6.heap.size := fun k e => by have := h6 k e; omega
  have g8 : ∀ k, Value.ownBlock (.slice A8 len c8) = some k → k < w6.heap.size := fun k e => by have := h8 k e; omega
  go_wp2_with (go_at_call 37; (with_reducible refine (eqFrs_refl A9 A6 n c9 c6 rs _ O9.frsK O6.frsK).mono ?_); rintro e w8 ⟨rfl, hb⟩; refine Hid.out ?_)
  refine Lib.hid ?_
  have O6 := O6.below hb
  have O8 := O8.below hb
  have O9 := O9.below hb
  have hP := (hb.block _ (blk_lt hP)).trans hP
  have hB : Below w.heap.size w w8 := bstep hB hb hB.size
  clear hb
  go_wp2_with (go_at_call 31; (with_reducible refine (toSas_any A len cap xs _ (hS0.below hB) hlen).mono ?_); rintro e w9 ⟨vz, rfl, Oz, hb⟩; refine Hid.out ?_)
  refine Lib.hid ?_
  have O6 := O6.below hb
  have O8 := O8.below hb
  have O9 := O9.below hb
  have hP := (hb.block _ (blk_lt hP)).trans hP
  have hB : Below w.heap.size w w9 := bstep hB hb hB.size
  obtain ⟨Az, cz, rfl, -⟩ := Oz.frs
  rw [HXL.out] at Oz ⊢
  clear hb
  go_wp2_with (go_at_call 32; (with_reducible refine (eqSas_refl A8 Az len c8 cz xs _ O8.frsN Oz.frsN).mono ?_); rintro e w10 ⟨rfl, hb⟩; refine Hid.out ?_)
  refine Lib.hid ?_
  have O6 := O6.below hb
  have O8 := O8.below hb
  have O9 := O9.below hb
  have hP := (hb.block _ (blk_lt hP)).trans hP
  have hB : Below w.heap.size w w10 := bstep hB hb hB.size
  clear hb Oz
  go_wp2_with (go_at_call 42; (with_reducible refine (markA_any _ (.slice A8 len c8) xs _ O8 (by rw [HXL.out]; exact hlen)).mono ?_); rintro e w11 ⟨rfl, -, hg⟩; refine Hid.out ?_)
  refine Lib.hid ?_
  rw [HXL.out]
  have hl8 : ∀ k, Value.ownBlock (.slice A8 len c8) = some k → w4.heap.size ≤ k := fun k e => (O8.lt k e).1
  have O6 := O6.grown hg (own_ne h6 hl8)
  have O9 := O9.grown hg (own_ne2 (fun k e => (O9.lt k e).1) g8)
  have hP := (hg.block _ (blk_lt hP) (fun e => by have := hl8 _ e.symm; omega)).trans hP
  have hB : Below w.heap.size w w11 := hB.grown hg hB.size (fun k e => by have := hl8 k e; omega)
  have hk1 : ¬ (2 * (len : Int) + 1 < 0) := by omega
  clear hg O8 hl8 h8 g8
  go_wp2_with (go_at_call 37; (with_reducible refine (eqFrs_refl A9 A6 n c9 c6 rs _ O9.frsK O6.frsK).mono ?_); rintro e w12 ⟨rfl, hb⟩; refine Hid.out ?_)
  refine Lib.hid ?_
  have O6 := O6.below hb
  have O9 := O9.below hb
  have hP := (hb.block _ (blk_lt hP)).trans hP
  have hB : Below w.heap.size w w12 := bstep hB hb hB.size
  clear hb hk1
  go_wp2_with (go_at_call 38; (with_reducible refine (markF_any _ (.slice A9 n c9) rs _ O9 (by rw [← HN.out]; omega)).mono ?_); rintro e w13 ⟨rfl, O9m, hg⟩; refine Hid.out ?_)
  refine Lib.hid ?_
  rw [← HN.out] at O9m ⊢
  have hl9 : ∀ k, Value.ownBlock (.slice A9 n c9) = some k → w6.heap.size ≤ k := fun k e => (O9.lt k e).1
  have O6 := O6.grown hg (own_ne g6 hl9)
  have hP := (hg.block _ (blk_lt hP) (fun e => by have := hl9 _ e.symm; omega)).trans hP
  have hB : Below w.heap.size w w13 := hB.grown hg hB.size (fun k e => by have := hl9 k e; omega)
  have hk2 : ¬ (3 * (n : Int) + 1 < 0) := by omega
  clear hg O9 hl9
  go_wp2_with (go_at_call 39; (with_reducible refine (heldF_any A9 n c9 _ O9m.frsK (by omega)).mono ?_); rintro e w14 ⟨rfl, hb⟩; refine Hid.out ?_)
  refine Lib.hid ?_
  have O6 := O6.below hb
  have O9m := O9m.below hb
  have hP := (hb.block _ (blk_lt hP)).trans hP
  have hB : Below w.heap.size w w14 := bstep hB hb hB.size
  clear hb
  go_upto_region 24 with fail
  go_cut [14, 15] from 79 to 86 (fun s6 s7 W => s7 = .bool ok ∧ OwF w14.heap.size s6 rs W ∧ Below w14.heap.size w14 W)
  case first =>
    have hSx : ∀ W, Below w14.heap.size w14 W → W.cell? ⟨w.heap.size, 0, none⟩ = some (.int .i64 m.a.re) ∧ W.cell? ⟨w.heap.size, 1, none⟩ = some (.int .i64 m.a.im) ∧ W.cell? ⟨w.heap.size, 2, none⟩ = some (.int .i64 m.a.den) ∧ W.cell? ⟨w.heap.size, 3, none⟩ = some (.int .i64 m.b.re) ∧ W.cell? ⟨w.heap.size, 4, none⟩ = some (.int .i64 m.b.im) ∧ W.cell? ⟨w.heap.size, 5, none⟩ = some (.int .i64 m.b.den) ∧ W.cell? ⟨w.heap.size, 6, none⟩ = some (.int .i64 m.c.re) ∧ W.cell? ⟨w.heap.size, 7, none⟩ = some (.int .i64 m.c.im) ∧ W.cell? ⟨w.heap.size, 8, none⟩ = some (.int .i64 m.c.den) ∧ W.cell? ⟨w.heap.size, 9, none⟩ = some (.int .i64 m.d.re) ∧ W.cell? ⟨w.heap.size, 10, none⟩ = some (.int .i64 m.d.im) ∧ W.cell? ⟨w.heap.size, 11, none⟩ = some (.int .i64 m.d.den) := fun W h => by
      have lo := blk_lt hP
      obtain ⟨p0, p1, p2, p3, p4, p5, p6, p7, p8, p9, p10, p11⟩ := blk_m hP
      exact ⟨(h.cell (p := ⟨_, _, none⟩) lo).trans p0, (h.cell (p := ⟨_, _, none⟩) lo).trans p1, (h.cell (p := ⟨_, _, none⟩) lo).trans p2, (h.cell (p := ⟨_, _, none⟩) lo).trans p3, (h.cell (p := ⟨_, _, none⟩) lo).trans p4, (h.cell (p := ⟨_, _, none⟩) lo).trans p5, (h.cell (p := ⟨_, _, none⟩) lo).trans p6, (h.cell (p := ⟨_, _, none⟩) lo).trans p7, (h.cell (p := ⟨_, _, none⟩) lo).trans p8, (h.cell (p := ⟨_, _, none⟩) lo).trans p9, (h.cell (p := ⟨_, _, none⟩) lo).trans p10, (h.cell (p := ⟨_, _, none⟩) lo).trans p11⟩
    have hz0 : w14.heap.size ≤ w14.heap.size := Nat.le_refl _
    have hbp : Below w14.heap.size w14 w14 := Below.refl _ _
    go_region_held3 (fun W => W.cell? ⟨w.heap.size, 0, none⟩ = some (.int .i64 m.a.re) ∧ W.cell? ⟨w.heap.size, 1, none⟩ = some (.int .i64 m.a.im) ∧ W.cell? ⟨w.heap.size, 2, none⟩ = some (.int .i64 m.a.den) ∧ W.cell? ⟨w.heap.size, 3, none⟩ = some (.int .i64 m.b.re) ∧ W.cell? ⟨w.heap.size, 4, none⟩ = some (.int .i64 m.b.im) ∧ W.cell? ⟨w.heap.size, 5, none⟩ = some (.int .i64 m.b.den) ∧ W.cell? ⟨w.heap.size, 6, none⟩ = some (.int .i64 m.c.re) ∧ W.cell? ⟨w.heap.size, 7, none⟩ = some (.int .i64 m.c.im) ∧ W.cell? ⟨w.heap.size, 8, none⟩ = some (.int .i64 m.c.den) ∧ W.cell? ⟨w.heap.size, 9, none⟩ = some (.int .i64 m.d.re) ∧ W.cell? ⟨w.heap.size, 10, none⟩ = some (.int .i64 m.d.im) ∧ W.cell? ⟨w.heap.size, 11, none⟩ = some (.int .i64 m.d.den)) ((refine hSx _ ?_; exact below_)) (first
      | (go_at_call 31; (with_reducible refine (toSas_any A len cap xs _ (hS0.below (by exact below_)) hlen).mono ?_); rintro e wA ⟨va, rfl, Oa, hb⟩; have hbA : Below w14.heap.size w14 wA := bstep (by exact below_) hb side_; have hBA : Below w.heap.size w wA := bstep hB hbA hB.size; have hzA := hbA.size; obtain ⟨A2, c2, rfl, hSa⟩ := Oa.frs; rw [HXL.out] at hSa ⊢; clear hb Oa)
      | (go_at_call 35; (with_reducible refine (toStk_any m _).mono ?_); rintro e wB ⟨rfl, hb⟩; have hbB : Below w14.heap.size w14 wB := bstep (by exact below_) hb side_; have hBB : Below w.heap.size w wB := bstep hB hbB hB.size; have hzB := hbB.size; (first | have hSb := hSa.below hb | skip); clear hb)
      | (go_at_call 41; (with_reducible refine (read_m A2 len c2 xs m rs ok _ (by first | exact hSb | exact hSa) (hGO.below (by exact below_)) (hGZ.below (by exact below_)) (hGT.below (by exact below_)) HC).mono ?_); rintro e wC ⟨v6, rfl, O6, hb⟩; have hbC : Below w14.heap.size w14 wC := bstep (by exact below_) hb side_; have O6 := O6.mono (base' := w14.heap.size) side_; clear hb))
    all_goals (try go_wp2)
    all_goals (go_meet; exact ⟨rfl, O6, by exact below_⟩)
  rename World => w17
  obtain ⟨q7, On, hb⟩ := hcut
  subst q7
  have O6 := O6.below hb
  have O9m := O9m.below hb
  have hP := (hb.block _ (blk_lt hP)).trans hP
  have hB : Below w.heap.size w w17 := bstep hB hb hB.size
  clear hb
  obtain ⟨Ah, ch, rfl, -⟩ := On.frs
  have Oh := On
  clear On
  rw [← HN.out] at Oh ⊢
  go_wp2_with (go_at_call 37; (with_reducible refine (eqFrs_refl Ah A6 n ch c6 rs _ Oh.frsK O6.frsK).mono ?_); rintro e w18 ⟨rfl, hb⟩; refine Hid.out ?_)
  refine Lib.hid ?_
  have O9m := O9m.below hb
  have hP := (hb.block _ (blk_lt hP)).trans hP
  have hB : Below w.heap.size w w18 := bstep hB hb hB.size
  clear hb Oh O6
  go_wp2_with (go_at_call 39; (with_reducible refine (heldF_any A9 n c9 _ O9m.frsK (by omega)).mono ?_); rintro e w19 ⟨rfl, hb⟩; have hB19 : Below w.heap.size w w19 := bstep hB hb hB.size; clear hb)
  go_ret
  exact ⟨rfl, by exact below_⟩
end Go.Proofs.YtalcjmefmffcnaaDoor
