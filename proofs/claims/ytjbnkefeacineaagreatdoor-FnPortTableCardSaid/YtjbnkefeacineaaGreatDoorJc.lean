/-
  Texts of this claim, joined: Bq; Bs; Bt; Bu. Nothing is claimed here; the other texts of this claim use it.
-/
import Derived.Test.YtjbnkefeacineaaGreatDoorBo
import Derived.Test.YtjbnkefeacineaaGreatDoorJj
import Derived.Test.YtjbnkefeacineaaGreatDoorNa
import Derived.Test.YtjbnkefeacineaaGreatDoorJh
import Derived.Test.YtjbnkefeacineaaGreatDoorJa
import Derived.BigQuiet
import Derived.Test.YtjbnkefeacineaaGreatDoorNf
import Derived.Test.YtjbnkefeacineaaGreatDoorNd
import Derived.Test.YtjbnkefeacineaaGreatDoorNb
namespace Go.Proofs.YtjbnkefeacineaaGreatDoor
set_option linter.unusedSimpArgs false
set_option linter.unusedVariables false
section
open Go.RowKit
attribute [local go_sem ↓] Go.wp_at_zero Go.wp_at_succ
structure MG (w : World) (b6 bs : Nat) (cc dd : Fr) (bad : Bool) (W : World) : Prop where
  B : Below w.heap.size w W
  s : SumIs W bs bad
  r : Blk W w.heap.size (mtc ⟨zK, zK, zK, zK⟩) 92
  a : Blk W b6 (frc cc) 24
  b : Blk W (b6 + 1) (frc dd) 24
  l : w.heap.size < b6 ∧ b6 + 1 < bs
section
variable {w W W' : World} {b6 bs : Nat} {cc dd : Fr} {bad bad' : Bool}
theorem MG.drew (h : MG w b6 bs cc dd bad W) : MG w b6 bs cc dd bad W.drew := ⟨h.B.drew, h.s.drew, h.r, h.a, h.b, h.l⟩
theorem MG.step (h : MG w b6 bs cc dd bad W) (X : BelX W.heap.size bs W W') (s : SumIs W' bs bad') : MG w b6 bs cc dd bad' W' := by
  have l1 := blk_lt h.r
  have l2 := blk_lt h.a
  have l3 := blk_lt h.b
  obtain ⟨l4, l5⟩ := h.l
  have l6 := h.B.size
  exact ⟨((BelX.of h.B).trans (X.mono l6)).below (by omega), s, (X.block _ l1 (by omega)).trans h.r, (X.block _ l2 (by omega)).trans h.a, (X.block _ l3 (by omega)).trans h.b, h.l⟩
theorem MG.cells (h : MG w b6 bs cc dd bad W) : W.cell? ⟨b6, 0, none⟩ = some (.int .i64 (cc).re) ∧ W.cell? ⟨b6, 1, none⟩ = some (.int .i64 (cc).im) ∧ W.cell? ⟨b6, 2, none⟩ = some (.int .i64 (cc).den) ∧ W.cell? ⟨b6 + 1, 0, none⟩ = some (.int .i64 (dd).re) ∧ W.cell? ⟨b6 + 1, 1, none⟩ = some (.int .i64 (dd).im) ∧ W.cell? ⟨b6 + 1, 2, none⟩ = some (.int .i64 (dd).den) :=
  ⟨(blk_fr0 h.a).1, (blk_fr0 h.a).2.1, (blk_fr0 h.a).2.2, blk_fr0 h.b⟩
theorem MG.after (h : MG w b6 bs cc dd bad W) (v0 v1 v2 v3 v4 v5 v6 v7 v8 v9 v10 v11 : Value) : (fun w' => w'.cell? ⟨b6, 0, none⟩ = some (.int .i64 (cc).re) ∧ w'.cell? ⟨b6, 1, none⟩ = some (.int .i64 (cc).im) ∧ w'.cell? ⟨b6, 2, none⟩ = some (.int .i64 (cc).den) ∧ w'.cell? ⟨b6 + 1, 0, none⟩ = some (.int .i64 (dd).re) ∧ w'.cell? ⟨b6 + 1, 1, none⟩ = some (.int .i64 (dd).im) ∧ w'.cell? ⟨b6 + 1, 2, none⟩ = some (.int .i64 (dd).den)) (((((((((((((W.setCell ⟨w.heap.size, 0, none⟩ v0).setCell ⟨w.heap.size, 1, none⟩ v1).setCell ⟨w.heap.size, 2, none⟩ v2).setCell ⟨w.heap.size, 3, none⟩ v3).setCell ⟨w.heap.size, 4, none⟩ v4).setCell ⟨w.heap.size, 5, none⟩ v5).setCell ⟨w.heap.size, 6, none⟩ v6).setCell ⟨w.heap.size, 7, none⟩ v7).setCell ⟨w.heap.size, 8, none⟩ v8).setCell ⟨w.heap.size, 9, none⟩ v9).setCell ⟨w.heap.size, 10, none⟩ v10).setCell ⟨w.heap.size, 11, none⟩ v11)) := by
  obtain ⟨c0, c1, c2, d0, d1, d2⟩ := h.cells
  have hl := h.l
  have key : ∀ b o : Nat, b ≠ w.heap.size → (((((((((((((W.setCell ⟨w.heap.size, 0, none⟩ v0).setCell ⟨w.heap.size, 1, none⟩ v1).setCell ⟨w.heap.size, 2, none⟩ v2).setCell ⟨w.heap.size, 3, none⟩ v3).setCell ⟨w.heap.size, 4, none⟩ v4).setCell ⟨w.heap.size, 5, none⟩ v5).setCell ⟨w.heap.size, 6, none⟩ v6).setCell ⟨w.heap.size, 7, none⟩ v7).setCell ⟨w.heap.size, 8, none⟩ v8).setCell ⟨w.heap.size, 9, none⟩ v9).setCell ⟨w.heap.size, 10, none⟩ v10).setCell ⟨w.heap.size, 11, none⟩ v11)).cell? ⟨b, o, none⟩ = W.cell? ⟨b, o, none⟩ := fun b o hb => by
    refine World.cell?_of_block ?_
    exact ((Below.heap_setCell _ _ _ b hb).trans ((Below.heap_setCell _ _ _ b hb).trans ((Below.heap_setCell _ _ _ b hb).trans ((Below.heap_setCell _ _ _ b hb).trans ((Below.heap_setCell _ _ _ b hb).trans ((Below.heap_setCell _ _ _ b hb).trans ((Below.heap_setCell _ _ _ b hb).trans ((Below.heap_setCell _ _ _ b hb).trans ((Below.heap_setCell _ _ _ b hb).trans ((Below.heap_setCell _ _ _ b hb).trans ((Below.heap_setCell _ _ _ b hb).trans (Below.heap_setCell _ _ _ b hb))))))))))))
  have n1 : b6 ≠ w.heap.size := by omega
  have n2 : b6 + 1 ≠ w.heap.size := by omega
  exact ⟨(key _ _ n1).trans c0, (key _ _ n1).trans c1, (key _ _ n1).trans c2, (key _ _ n2).trans d0, (key _ _ n2).trans d1, (key _ _ n2).trans d2⟩
theorem MG.after2 (h : MG w b6 bs cc dd bad W) {v0 v1 v2 v3 v4 v5 v6 v7 v8 v9 v10 v11 : Value} : (((((((((((((W.setCell ⟨w.heap.size, 0, none⟩ v0).setCell ⟨w.heap.size, 1, none⟩ v1).setCell ⟨w.heap.size, 2, none⟩ v2).setCell ⟨w.heap.size, 3, none⟩ v3).setCell ⟨w.heap.size, 4, none⟩ v4).setCell ⟨w.heap.size, 5, none⟩ v5).setCell ⟨w.heap.size, 6, none⟩ v6).setCell ⟨w.heap.size, 7, none⟩ v7).setCell ⟨w.heap.size, 8, none⟩ v8).setCell ⟨w.heap.size, 9, none⟩ v9).setCell ⟨w.heap.size, 10, none⟩ v10).setCell ⟨w.heap.size, 11, none⟩ v11)).cell? ⟨b6, 0, none⟩ = some (.int .i64 (cc).re) ∧ (((((((((((((W.setCell ⟨w.heap.size, 0, none⟩ v0).setCell ⟨w.heap.size, 1, none⟩ v1).setCell ⟨w.heap.size, 2, none⟩ v2).setCell ⟨w.heap.size, 3, none⟩ v3).setCell ⟨w.heap.size, 4, none⟩ v4).setCell ⟨w.heap.size, 5, none⟩ v5).setCell ⟨w.heap.size, 6, none⟩ v6).setCell ⟨w.heap.size, 7, none⟩ v7).setCell ⟨w.heap.size, 8, none⟩ v8).setCell ⟨w.heap.size, 9, none⟩ v9).setCell ⟨w.heap.size, 10, none⟩ v10).setCell ⟨w.heap.size, 11, none⟩ v11)).cell? ⟨b6, 1, none⟩ = some (.int .i64 (cc).im) ∧ (((((((((((((W.setCell ⟨w.heap.size, 0, none⟩ v0).setCell ⟨w.heap.size, 1, none⟩ v1).setCell ⟨w.heap.size, 2, none⟩ v2).setCell ⟨w.heap.size, 3, none⟩ v3).setCell ⟨w.heap.size, 4, none⟩ v4).setCell ⟨w.heap.size, 5, none⟩ v5).setCell ⟨w.heap.size, 6, none⟩ v6).setCell ⟨w.heap.size, 7, none⟩ v7).setCell ⟨w.heap.size, 8, none⟩ v8).setCell ⟨w.heap.size, 9, none⟩ v9).setCell ⟨w.heap.size, 10, none⟩ v10).setCell ⟨w.heap.size, 11, none⟩ v11)).cell? ⟨b6, 2, none⟩ = some (.int .i64 (cc).den) ∧ (((((((((((((W.setCell ⟨w.heap.size, 0, none⟩ v0).setCell ⟨w.heap.size, 1, none⟩ v1).setCell ⟨w.heap.size, 2, none⟩ v2).setCell ⟨w.heap.size, 3, none⟩ v3).setCell ⟨w.heap.size, 4, none⟩ v4).setCell ⟨w.heap.size, 5, none⟩ v5).setCell ⟨w.heap.size, 6, none⟩ v6).setCell ⟨w.heap.size, 7, none⟩ v7).setCell ⟨w.heap.size, 8, none⟩ v8).setCell ⟨w.heap.size, 9, none⟩ v9).setCell ⟨w.heap.size, 10, none⟩ v10).setCell ⟨w.heap.size, 11, none⟩ v11)).cell? ⟨b6 + 1, 0, none⟩ = some (.int .i64 (dd).re) ∧ (((((((((((((W.setCell ⟨w.heap.size, 0, none⟩ v0).setCell ⟨w.heap.size, 1, none⟩ v1).setCell ⟨w.heap.size, 2, none⟩ v2).setCell ⟨w.heap.size, 3, none⟩ v3).setCell ⟨w.heap.size, 4, none⟩ v4).setCell ⟨w.heap.size, 5, none⟩ v5).setCell ⟨w.heap.size, 6, none⟩ v6).setCell ⟨w.heap.size, 7, none⟩ v7).setCell ⟨w.heap.size, 8, none⟩ v8).setCell ⟨w.heap.size, 9, none⟩ v9).setCell ⟨w.heap.size, 10, none⟩ v10).setCell ⟨w.heap.size, 11, none⟩ v11)).cell? ⟨b6 + 1, 1, none⟩ = some (.int .i64 (dd).im) ∧ (((((((((((((W.setCell ⟨w.heap.size, 0, none⟩ v0).setCell ⟨w.heap.size, 1, none⟩ v1).setCell ⟨w.heap.size, 2, none⟩ v2).setCell ⟨w.heap.size, 3, none⟩ v3).setCell ⟨w.heap.size, 4, none⟩ v4).setCell ⟨w.heap.size, 5, none⟩ v5).setCell ⟨w.heap.size, 6, none⟩ v6).setCell ⟨w.heap.size, 7, none⟩ v7).setCell ⟨w.heap.size, 8, none⟩ v8).setCell ⟨w.heap.size, 9, none⟩ v9).setCell ⟨w.heap.size, 10, none⟩ v10).setCell ⟨w.heap.size, 11, none⟩ v11)).cell? ⟨b6 + 1, 2, none⟩ = some (.int .i64 (dd).den) := h.after v0 v1 v2 v3 v4 v5 v6 v7 v8 v9 v10 v11
theorem MG.out (h : MG w b6 bs cc dd bad W) : (∀ o, o < 12 → W.cell? ⟨w.heap.size, o, none⟩ = some (.int .i64 0)) ∧ ∀ o, W.frozen? ⟨w.heap.size, o, none⟩ = false := by
  refine ⟨fun o ho => ?_, fun o => ?_⟩
  · have : (mtc ⟨zK, zK, zK, zK⟩)[o]? = some (.int .i64 0) := by
      match o, ho with
      | 0, _ => rfl | 1, _ => rfl | 2, _ => rfl | 3, _ => rfl | 4, _ => rfl | 5, _ => rfl | 6, _ => rfl | 7, _ => rfl | 8, _ => rfl | 9, _ => rfl | 10, _ => rfl | 11, _ => rfl
    rw [cell_of_row W w.heap.size o _ _ _ h.r]; exact this
  · have := h.r
    simp [World.frozen?, this]
end
theorem xt_q (a b p : Fr) (pn : Bool) (bs : Nat) (w : World) (hs : SumEx w bs) (hp : Hid (vN (timesI a b) = p)) (hn : Hid ((timesI a b).isNone = pn)) :
    Calls Tryz.prog 55 #[.pointer (some ⟨bs, 0, none⟩), frv a, frv b] w fun e w' => e = .returned (frv p) ∧ (∀ c, SumIs w bs c → SumIs w' bs (c || pn)) ∧ BelX w.heap.size bs w w' := by
  rw [← hp.out, ← hn.out]; exact x_times a b bs w hs
theorem got_q (p1 p2 p3 : Fr) (b4 okk : Bool) (R : Mt) (bs : Nat) (w : World) (hs : SumIs w bs b4) (hR : Hid (gotF b4 Z12 (⟨p1, p2, p2, p3⟩ : Mt) = R ∧ (!b4) = okk)) :
    Calls Tryz.prog 140 #[.pointer (some ⟨bs, 0, none⟩), mtv ⟨p1, p2, p2, p3⟩] w fun e w' => e = .returned (.tuple #[mtv R, .bool okk]) ∧ Below w.heap.size w w' := by
  refine (got_mat ⟨p1, p2, p2, p3⟩ bs w (SumEx.of hs)).mono fun e w' ⟨b, h1, h2, h3⟩ => ⟨?_, h3⟩
  obtain rfl := h1.uniq hs
  rw [h2, hR.out.1, hR.out.2]
set_option maxRecDepth 100000 in
set_option maxHeartbeats 40000000 in
theorem filter_g (p q : Int) (cc dd : Fr) (told : Bool) (w : World) (hdir : ∀ w, Calls Tryz.prog 136 #[.int .i64 p, .int .i64 q] w fun e w' => e = .returned (.tuple #[frv cc, frv dd, .bool told]) ∧ Below w.heap.size w w') :
    Calls Tryz.prog 111 #[.int .i64 p, .int .i64 q] w fun e w' => e = .returned (.tuple #[mtv (gotF ((((!told || (timesI cc cc).isNone) || (timesI cc dd).isNone) || (timesI cc dd).isNone) || (timesI dd dd).isNone) Z12 ⟨vN (timesI cc cc), vN (timesI cc dd), vN (timesI cc dd), vN (timesI dd dd)⟩), .bool (!((((!told || (timesI cc cc).isNone) || (timesI cc dd).isNone) || (timesI cc dd).isNone) || (timesI dd dd).isNone))]) ∧ Below w.heap.size w w' := by
  obtain ⟨p1, hp1⟩ : ∃ x, vN (timesI cc cc) = x := ⟨_, rfl⟩
  obtain ⟨p2, hp2⟩ : ∃ x, vN (timesI cc dd) = x := ⟨_, rfl⟩
  obtain ⟨p3, hp3⟩ : ∃ x, vN (timesI dd dd) = x := ⟨_, rfl⟩
  obtain ⟨q1, hq1⟩ : ∃ x, (timesI cc cc).isNone = x := ⟨_, rfl⟩
  obtain ⟨q2, hq2⟩ : ∃ x, (timesI cc dd).isNone = x := ⟨_, rfl⟩
  obtain ⟨q3, hq3⟩ : ∃ x, (timesI dd dd).isNone = x := ⟨_, rfl⟩
  rw [hp1, hp2, hp3, hq1, hq2, hq3]
  have HP1 := Lib.hid hp1
  have HP2 := Lib.hid hp2
  have HP3 := Lib.hid hp3
  have HQ1 := Lib.hid hq1
  have HQ2 := Lib.hid hq2
  have HQ3 := Lib.hid hq3
  obtain ⟨b0, hb0⟩ : ∃ x, (!told) = x := ⟨_, rfl⟩
  obtain ⟨b1, hb1⟩ : ∃ x, (b0 || q1) = x := ⟨_, rfl⟩
  obtain ⟨b2, hb2⟩ : ∃ x, (b1 || q2) = x := ⟨_, rfl⟩
  obtain ⟨b3, hb3⟩ : ∃ x, (b2 || q2) = x := ⟨_, rfl⟩
  obtain ⟨b4, hb4⟩ : ∃ x, (b3 || q3) = x := ⟨_, rfl⟩
  rw [hb0, hb1, hb2, hb3, hb4]
  obtain ⟨R, hR⟩ : ∃ R, gotF b4 Z12 (⟨p1, p2, p2, p3⟩ : Mt) = R := ⟨_, rfl⟩
  obtain ⟨okk, hok⟩ : ∃ x, (!b4) = x := ⟨_, rfl⟩
  rw [hR, hok]
  have HR := Lib.hid (And.intro hR hok)
  have HB0' := Lib.hid hb0
  have HB1' := Lib.hid hb1
  have HB2' := Lib.hid hb2
  have HB3' := Lib.hid hb3
  have HB4' := Lib.hid hb4
  clear hp1 hp2 hp3 hq1 hq2 hq3 hR hok hb0 hb1 hb2 hb3 hb4
  go_enter Tryz.func111, Tryz.ntmps111
  go_upto_region 3 with (first | (go_at_call 136; (with_reducible refine (hdir _).mono ?_); rintro e w1 ⟨rfl, hb1⟩; have HB1 := Lib.hid hb1; clear hb1) | (go_at_call 53; (with_reducible refine (x_need told (w1.heap.size + 1 + 1) _ (SumEx.of (SumIs.new' (by simp)))).mono ?_); rintro e w2 ⟨rfl, hu, hx⟩; have HS2 := Lib.hid (hu false (SumIs.new' (by simp))); have HX2 := Lib.hid hx; clear hu hx))
  have hb1 := HB1.out
  have hs2 := HS2.out
  have hx2 := HX2.out
  clear HB1 HS2 HX2
  have z1' := hb1.size
  rw [World.size_alloc] at z1'
  have hM : MG w w1.heap.size (w1.heap.size + 1 + 1) cc dd b0 w2 := by
    obtain ⟨W3, h3⟩ : ∃ W, W = ((w1.alloc (.cells (frc cc) 24)).alloc (.cells (frc dd) 24)).alloc (.cells #[.bool false] 70) := ⟨_, rfl⟩
    have z3 : W3.heap.size = w1.heap.size + 1 + 1 + 1 := by rw [h3]; simp
    have hx3 : BelX W3.heap.size (w1.heap.size + 1 + 1) W3 w2 := by rw [h3]; exact hx2
    have r3 : Blk W3 w.heap.size (mtc ⟨zK, zK, zK, zK⟩) 92 := by
      rw [h3]
      refine (Below.heap_alloc _ _ _ (by simp; omega)).trans ((Below.heap_alloc _ _ _ (by simp; omega)).trans ((Below.heap_alloc _ _ _ (by omega)).trans ((hb1.block _ (by simp)).trans (heap_alloc_last w _))))
    have a3 : Blk W3 w1.heap.size (frc cc) 24 := by
      rw [h3]
      exact (Below.heap_alloc _ _ _ (by simp; omega)).trans ((Below.heap_alloc _ _ _ (by simp)).trans (heap_alloc_last w1 _))
    have b3 : Blk W3 (w1.heap.size + 1) (frc dd) 24 := by
      rw [h3]
      refine (Below.heap_alloc _ _ _ (by simp)).trans ?_
      have := heap_alloc_last (w1.alloc (.cells (frc cc) 24)) (.cells (frc dd) 24)
      rwa [World.size_alloc] at this
    have B3 : Below w.heap.size w W3 := by
      rw [h3]
      have b0 : Below w.heap.size w w1 := bstep ((Below.refl _ _).alloc (Nat.le_refl _) _) hb1 (by simp)
      exact ((b0.alloc (by omega) _).alloc (by simp; omega) _).alloc (by simp; omega) _
    have hs2' : SumIs w2 (w1.heap.size + 1 + 1) b0 := by rw [← HB0'.out]; simpa using hs2
    exact ⟨((BelX.of B3).trans (hx3.mono (by omega))).below (by omega), hs2', (hx3.block _ (by omega) (by omega)).trans r3, (hx3.block _ (by omega) (by omega)).trans a3, (hx3.block _ (by omega) (by omega)).trans b3, by omega⟩
  clear hs2 hx2 hb1 hdir
  have hn1 : ¬ w.heap.size = w1.heap.size := by omega
  have hn2 : ¬ w.heap.size = w1.heap.size + 1 := by omega
  refine wp_region_noPanic ?_
  refine wp_region_held_drew (S := fun w' => w'.cell? ⟨w1.heap.size, 0, none⟩ = some (.int .i64 (cc).re) ∧ w'.cell? ⟨w1.heap.size, 1, none⟩ = some (.int .i64 (cc).im) ∧ w'.cell? ⟨w1.heap.size, 2, none⟩ = some (.int .i64 (cc).den) ∧ w'.cell? ⟨w1.heap.size + 1, 0, none⟩ = some (.int .i64 (dd).re) ∧ w'.cell? ⟨w1.heap.size + 1, 1, none⟩ = some (.int .i64 (dd).im) ∧ w'.cell? ⟨w1.heap.size + 1, 2, none⟩ = some (.int .i64 (dd).den)) (by kernel_rfl) ?_ (fun hHeld => ?_)
  · exact MG.cells (MG.drew hM)
  refine wpAnyH_take (i := 0) (v := ?vq1) (by simp; rfl) (by kernel_rfl) (by kernel_rfl) (by kernel_rfl) (fun _ _ _ h => h) (Or.inl ⟨by rfl, ?yq1⟩) (by assumption) ?rq1
  case yq1 => (intro w' hSw; obtain ⟨s0, s1, s2, s3, s4, s5⟩ := hSw; (try dsimp only at s0 s1 s2 s3 s4 s5); go_simp; first | done | with_reducible rfl)
  (try simp only [Act.put, List.setIfInBounds_toArray, List.set_cons_zero, List.set_cons_succ])
  refine wpAnyH_take (i := 1) (v := ?vq2) (by simp; rfl) (by kernel_rfl) (by kernel_rfl) (by kernel_rfl) (fun _ _ _ h => h) (Or.inl ⟨by rfl, ?yq2⟩) (by assumption) ?rq2
  case yq2 => (intro w' hSw; obtain ⟨s0, s1, s2, s3, s4, s5⟩ := hSw; (try dsimp only at s0 s1 s2 s3 s4 s5); go_simp; first | done | with_reducible rfl)
  (try simp only [Act.put, List.setIfInBounds_toArray, List.set_cons_zero, List.set_cons_succ])
  refine wpAnyH_take (i := 2) (v := ?vq3) (by simp; rfl) (by kernel_rfl) (by kernel_rfl) (by kernel_rfl) (fun _ _ _ h => h) (Or.inl ⟨by rfl, ?yq3⟩) (by assumption) ?rq3
  case yq3 => (intro w' hSw; obtain ⟨s0, s1, s2, s3, s4, s5⟩ := hSw; (try dsimp only at s0 s1 s2 s3 s4 s5); go_simp; first | done | with_reducible rfl)
  (try simp only [Act.put, List.setIfInBounds_toArray, List.set_cons_zero, List.set_cons_succ])
  refine wpAnyH_take (i := 3) (v := ?vq4) (by simp; rfl) (by kernel_rfl) (by kernel_rfl) (by kernel_rfl) (fun _ _ _ h => h) (Or.inl ⟨by rfl, ?yq4⟩) (by assumption) ?rq4
  case yq4 => (intro w' hSw; obtain ⟨s0, s1, s2, s3, s4, s5⟩ := hSw; (try dsimp only at s0 s1 s2 s3 s4 s5); go_simp; first | done | with_reducible rfl)
  (try simp only [Act.put, List.setIfInBounds_toArray, List.set_cons_zero, List.set_cons_succ])
  refine wpAnyH_take (i := 5) (v := ?vq5) (by simp; rfl) (by kernel_rfl) (by kernel_rfl) (by kernel_rfl) (fun _ _ _ h => h) (Or.inl ⟨by rfl, ?yq5⟩) (by assumption) ?rq5
  case yq5 => (intro w' hSw; obtain ⟨s0, s1, s2, s3, s4, s5⟩ := hSw; (try dsimp only at s0 s1 s2 s3 s4 s5); go_simp; first | done | with_reducible rfl)
  (try simp only [Act.put, List.setIfInBounds_toArray, List.set_cons_zero, List.set_cons_succ])
  refine wpAnyH_take (i := 6) (v := ?vq6) (by simp; rfl) (by kernel_rfl) (by kernel_rfl) (by kernel_rfl) (fun _ _ _ h => h) (Or.inl ⟨by rfl, ?yq6⟩) (by assumption) ?rq6
  case yq6 => (intro w' hSw; obtain ⟨s0, s1, s2, s3, s4, s5⟩ := hSw; (try dsimp only at s0 s1 s2 s3 s4 s5); go_simp; first | done | with_reducible rfl)
  (try simp only [Act.put, List.setIfInBounds_toArray, List.set_cons_zero, List.set_cons_succ])
  refine wpAnyH_take (i := 7) (v := ?vq7) (by simp; rfl) (by kernel_rfl) (by kernel_rfl) (by kernel_rfl) (fun _ _ _ h => h) (Or.inl ⟨by rfl, ?yq7⟩) (by assumption) ?rq7
  case yq7 => (intro w' hSw; obtain ⟨s0, s1, s2, s3, s4, s5⟩ := hSw; (try dsimp only at s0 s1 s2 s3 s4 s5); go_simp; first | done | with_reducible rfl)
  (try simp only [Act.put, List.setIfInBounds_toArray, List.set_cons_zero, List.set_cons_succ])
  refine wpAnyH_take (i := 9) (v := ?vq8) (by simp; rfl) (by kernel_rfl) (by kernel_rfl) (by kernel_rfl) (fun _ _ _ h => h) (Or.inl ⟨by rfl, ?yq8⟩) (by assumption) ?rq8
  case yq8 => (intro w' hSw; obtain ⟨s0, s1, s2, s3, s4, s5⟩ := hSw; (try dsimp only at s0 s1 s2 s3 s4 s5); go_simp; first | done | with_reducible rfl)
  (try simp only [Act.put, List.setIfInBounds_toArray, List.set_cons_zero, List.set_cons_succ])
  refine wpAnyH_take (i := 10) (v := ?vq9) (by simp; rfl) (by kernel_rfl) (by kernel_rfl) (by kernel_rfl) (fun _ _ _ h => h) (Or.inl ⟨by rfl, ?yq9⟩) (by assumption) ?rq9
  case yq9 => (intro w' hSw; obtain ⟨s0, s1, s2, s3, s4, s5⟩ := hSw; (try dsimp only at s0 s1 s2 s3 s4 s5); go_simp; first | done | with_reducible rfl)
  (try simp only [Act.put, List.setIfInBounds_toArray, List.set_cons_zero, List.set_cons_succ])
  refine wpAnyH_take (i := 11) (v := ?vq10) (by simp; rfl) (by kernel_rfl) (by kernel_rfl) (by kernel_rfl) (fun _ _ _ h => h) (Or.inl ⟨by rfl, ?yq10⟩) (by assumption) ?rq10
  case yq10 => (intro w' hSw; obtain ⟨s0, s1, s2, s3, s4, s5⟩ := hSw; (try dsimp only at s0 s1 s2 s3 s4 s5); go_simp; first | done | with_reducible rfl)
  (try simp only [Act.put, List.setIfInBounds_toArray, List.set_cons_zero, List.set_cons_succ])
  refine wpAnyH_take (i := 13) (v := ?vq11) (by simp; rfl) (by kernel_rfl) (by kernel_rfl) (by kernel_rfl) (fun _ _ _ h => h) (Or.inl ⟨by rfl, ?yq11⟩) (by assumption) ?rq11
  case yq11 => (intro w' hSw; obtain ⟨s0, s1, s2, s3, s4, s5⟩ := hSw; (try dsimp only at s0 s1 s2 s3 s4 s5); go_simp; first | done | with_reducible rfl)
  (try simp only [Act.put, List.setIfInBounds_toArray, List.set_cons_zero, List.set_cons_succ])
  refine wpAnyH_take (i := 14) (v := ?vq12) (by simp; rfl) (by kernel_rfl) (by kernel_rfl) (by kernel_rfl) (fun _ _ _ h => h) (Or.inl ⟨by rfl, ?yq12⟩) (by assumption) ?rq12
  case yq12 => (intro w' hSw; obtain ⟨s0, s1, s2, s3, s4, s5⟩ := hSw; (try dsimp only at s0 s1 s2 s3 s4 s5); go_simp; first | done | with_reducible rfl)
  (try simp only [Act.put, List.setIfInBounds_toArray, List.set_cons_zero, List.set_cons_succ])
  refine wpAnyH_take (i := 15) (v := ?vq13) (by simp; rfl) (by kernel_rfl) (by kernel_rfl) (by kernel_rfl) (fun _ _ _ h => h) (Or.inl ⟨by rfl, ?yq13⟩) (by assumption) ?rq13
  case yq13 => (intro w' hSw; obtain ⟨s0, s1, s2, s3, s4, s5⟩ := hSw; (try dsimp only at s0 s1 s2 s3 s4 s5); go_simp; first | done | with_reducible rfl)
  (try simp only [Act.put, List.setIfInBounds_toArray, List.set_cons_zero, List.set_cons_succ])
  refine wpAnyH_ready (rs := [4]) (by kernel_rfl) (by simp) ?_
  refine AllReadyH.cons (by simp; rfl) (fun K hK => ?_) AllReadyH.nil
  go_simp
  (go_at_call 55; (with_reducible refine (xt_q cc cc p1 q1 (w1.heap.size + 1 + 1) _ (SumEx.of (MG.s (w := w) (b6 := w1.heap.size) (cc := cc) (dd := dd) (by (first | (with_reducible assumption) | (with_reducible exact MG.drew (by with_reducible assumption)))))) HP1 HQ1).mono ?_); rintro e wd ⟨rfl, hu, hx⟩; have hC : MG w w1.heap.size (w1.heap.size + 1 + 1) cc dd b1 wd := MG.step (w := w) (b6 := w1.heap.size) (cc := cc) (dd := dd) (bs := (w1.heap.size + 1 + 1)) (by (first | (with_reducible assumption) | (with_reducible exact MG.drew (by with_reducible assumption)))) hx (by rw [← HB1'.out]; exact hu _ (MG.s (w := w) (b6 := w1.heap.size) (cc := cc) (dd := dd) (bad := b0) (by (first | (with_reducible assumption) | (with_reducible exact MG.drew (by with_reducible assumption)))))); clear hu hx)
  refine hK.out _ _ ?_ (fun hHeld => ?_)
  · exact MG.cells hC
  clear hK K
  (try simp only [Act.put, List.setIfInBounds_toArray, List.set_cons_zero, List.set_cons_succ])
  refine wpAnyH_ready (rs := [8]) (by kernel_rfl) (by simp) ?_
  refine AllReadyH.cons (by simp; rfl) (fun K hK => ?_) AllReadyH.nil
  go_simp
  (go_at_call 55; (with_reducible refine (xt_q cc dd p2 q2 (w1.heap.size + 1 + 1) _ (SumEx.of (MG.s (w := w) (b6 := w1.heap.size) (cc := cc) (dd := dd) (by (first | (with_reducible assumption) | (with_reducible exact MG.drew (by with_reducible assumption)))))) HP2 HQ2).mono ?_); rintro e wd ⟨rfl, hu, hx⟩; have hC : MG w w1.heap.size (w1.heap.size + 1 + 1) cc dd b2 wd := MG.step (w := w) (b6 := w1.heap.size) (cc := cc) (dd := dd) (bs := (w1.heap.size + 1 + 1)) (by (first | (with_reducible assumption) | (with_reducible exact MG.drew (by with_reducible assumption)))) hx (by rw [← HB2'.out]; exact hu _ (MG.s (w := w) (b6 := w1.heap.size) (cc := cc) (dd := dd) (bad := b1) (by (first | (with_reducible assumption) | (with_reducible exact MG.drew (by with_reducible assumption)))))); clear hu hx)
  refine hK.out _ _ ?_ (fun hHeld => ?_)
  · exact MG.cells hC
  clear hK K
  (try simp only [Act.put, List.setIfInBounds_toArray, List.set_cons_zero, List.set_cons_succ])
  refine wpAnyH_ready (rs := [12]) (by kernel_rfl) (by simp) ?_
  refine AllReadyH.cons (by simp; rfl) (fun K hK => ?_) AllReadyH.nil
  go_simp
  (go_at_call 55; (with_reducible refine (xt_q cc dd p2 q2 (w1.heap.size + 1 + 1) _ (SumEx.of (MG.s (w := w) (b6 := w1.heap.size) (cc := cc) (dd := dd) (by (first | (with_reducible assumption) | (with_reducible exact MG.drew (by with_reducible assumption)))))) HP2 HQ2).mono ?_); rintro e wd ⟨rfl, hu, hx⟩; have hC : MG w w1.heap.size (w1.heap.size + 1 + 1) cc dd b3 wd := MG.step (w := w) (b6 := w1.heap.size) (cc := cc) (dd := dd) (bs := (w1.heap.size + 1 + 1)) (by (first | (with_reducible assumption) | (with_reducible exact MG.drew (by with_reducible assumption)))) hx (by rw [← HB3'.out]; exact hu _ (MG.s (w := w) (b6 := w1.heap.size) (cc := cc) (dd := dd) (bad := b2) (by (first | (with_reducible assumption) | (with_reducible exact MG.drew (by with_reducible assumption)))))); clear hu hx)
  refine hK.out _ _ ?_ (fun hHeld => ?_)
  · exact MG.cells hC
  clear hK K
  (try simp only [Act.put, List.setIfInBounds_toArray, List.set_cons_zero, List.set_cons_succ])
  refine wpAnyH_ready (rs := [16]) (by kernel_rfl) (by simp) ?_
  refine AllReadyH.cons (by simp; rfl) (fun K hK => ?_) AllReadyH.nil
  go_simp
  (go_at_call 55; (with_reducible refine (xt_q dd dd p3 q3 (w1.heap.size + 1 + 1) _ (SumEx.of (MG.s (w := w) (b6 := w1.heap.size) (cc := cc) (dd := dd) (by (first | (with_reducible assumption) | (with_reducible exact MG.drew (by with_reducible assumption)))))) HP3 HQ3).mono ?_); rintro e wd ⟨rfl, hu, hx⟩; have hC : MG w w1.heap.size (w1.heap.size + 1 + 1) cc dd b4 wd := MG.step (w := w) (b6 := w1.heap.size) (cc := cc) (dd := dd) (bs := (w1.heap.size + 1 + 1)) (by (first | (with_reducible assumption) | (with_reducible exact MG.drew (by with_reducible assumption)))) hx (by rw [← HB4'.out]; exact hu _ (MG.s (w := w) (b6 := w1.heap.size) (cc := cc) (dd := dd) (bad := b3) (by (first | (with_reducible assumption) | (with_reducible exact MG.drew (by with_reducible assumption)))))); clear hu hx)
  refine hK.out _ _ ?_ (fun hHeld => ?_)
  · exact MG.cells hC
  clear hK K
  (try simp only [Act.put, List.setIfInBounds_toArray, List.set_cons_zero, List.set_cons_succ])
  refine wpAnyH_take (i := 17) (v := ?vq18) (by simp; rfl) (by kernel_rfl) (by kernel_rfl) (by kernel_rfl) (fun _ _ _ h => h) (Or.inl ⟨by rfl, ?yq18⟩) (by assumption) ?rq18
  case yq18 => (intro w' hSw; obtain ⟨s0, s1, s2, s3, s4, s5⟩ := hSw; (try dsimp only at s0 s1 s2 s3 s4 s5); go_simp; first | done | with_reducible rfl)
  (try simp only [Act.put, List.setIfInBounds_toArray, List.set_cons_zero, List.set_cons_succ])
  refine wpAnyH_take (i := 18) (v := ?vq19) (by simp; rfl) (by kernel_rfl) (by kernel_rfl) (by kernel_rfl) (fun _ _ _ h => h) (Or.inl ⟨by rfl, ?yq19⟩) (by assumption) ?rq19
  case yq19 => (intro w' hSw; obtain ⟨s0, s1, s2, s3, s4, s5⟩ := hSw; (try dsimp only at s0 s1 s2 s3 s4 s5); go_simp; first | done | with_reducible rfl)
  (try simp only [Act.put, List.setIfInBounds_toArray, List.set_cons_zero, List.set_cons_succ])
  refine wpAnyH_ready (rs := [19]) (by kernel_rfl) (by simp) ?_
  refine AllReadyH.cons (by simp; rfl) (fun K hK => ?_) AllReadyH.nil
  go_simp
  (go_at_call 140; (with_reducible refine (got_q p1 p2 p3 b4 okk R (w1.heap.size + 1 + 1) _ (MG.s (w := w) (b6 := w1.heap.size) (cc := cc) (dd := dd) (by (first | (with_reducible assumption) | (with_reducible exact MG.drew (by with_reducible assumption))))) HR).mono ?_); rintro e wd ⟨rfl, hb⟩; have hC : MG w w1.heap.size (w1.heap.size + 1 + 1) cc dd b4 wd := MG.step (w := w) (b6 := w1.heap.size) (cc := cc) (dd := dd) (bs := (w1.heap.size + 1 + 1)) (by (first | (with_reducible assumption) | (with_reducible exact MG.drew (by with_reducible assumption)))) (BelX.of hb) (SumIs.below (MG.s (w := w) (b6 := w1.heap.size) (cc := cc) (dd := dd) (by (first | (with_reducible assumption) | (with_reducible exact MG.drew (by with_reducible assumption))))) hb (SumIs.lt (MG.s (w := w) (b6 := w1.heap.size) (cc := cc) (dd := dd) (bad := b4) (by (first | (with_reducible assumption) | (with_reducible exact MG.drew (by with_reducible assumption))))))); clear hb; obtain ⟨ho1, ho2⟩ := hC.out; have hB := hC.B; have k0 := ho1 0 (by decide); have k1 := ho1 1 (by decide); have k2 := ho1 2 (by decide); have k3 := ho1 3 (by decide); have k4 := ho1 4 (by decide); have k5 := ho1 5 (by decide); have k6 := ho1 6 (by decide); have k7 := ho1 7 (by decide); have k8 := ho1 8 (by decide); have k9 := ho1 9 (by decide); have k10 := ho1 10 (by decide); have k11 := ho1 11 (by decide); clear ho1)
  refine hK.out _ _ ?_ (fun hHeld => ?_)
  · exact MG.cells hC
  clear hK K
  (try simp only [Act.put, List.setIfInBounds_toArray, List.set_cons_zero, List.set_cons_succ])
  refine wpAnyH_take (i := 20) (v := ?vq21) (by simp; rfl) (by kernel_rfl) (by kernel_rfl) (by kernel_rfl) (fun _ _ _ h => h) (Or.inl ⟨by rfl, ?yq21⟩) (by assumption) ?rq21
  case yq21 => (intro w' hSw; obtain ⟨s0, s1, s2, s3, s4, s5⟩ := hSw; (try dsimp only at s0 s1 s2 s3 s4 s5); go_simp; first | done | with_reducible rfl)
  (try simp only [Act.put, List.setIfInBounds_toArray, List.set_cons_zero, List.set_cons_succ])
  refine wpAnyH_take (i := 21) (v := ?vq22) (by simp; rfl) (by kernel_rfl) (by kernel_rfl) (by kernel_rfl) (fun _ _ _ h => h) (Or.inl ⟨by rfl, ?yq22⟩) (by assumption) ?rq22
  case yq22 => (intro w' hSw; obtain ⟨s0, s1, s2, s3, s4, s5⟩ := hSw; (try dsimp only at s0 s1 s2 s3 s4 s5); go_simp; first | done | with_reducible rfl)
  (try simp only [Act.put, List.setIfInBounds_toArray, List.set_cons_zero, List.set_cons_succ])
  refine wpAnyH_ready (rs := [22]) (by kernel_rfl) (by simp) ?_
  refine AllReadyH.cons (by simp; rfl) (fun K hK => ?_) AllReadyH.nil
  go_simp
  go_wp2
  refine hK.out _ _ ?_ (fun hHeld => ?_)
  · exact MG.after2 hC
  clear hK K
  (try simp only [Act.put, List.setIfInBounds_toArray, List.set_cons_zero, List.set_cons_succ])
  refine wpAnyH_take (i := 23) (v := ?vq24) (by simp; rfl) (by kernel_rfl) (by kernel_rfl) (by kernel_rfl) (fun _ _ _ h => h) (Or.inl ⟨by rfl, ?yq24⟩) (by assumption) ?rq24
  case yq24 => (intro w' hSw; obtain ⟨s0, s1, s2, s3, s4, s5⟩ := hSw; (try dsimp only at s0 s1 s2 s3 s4 s5); go_simp; first | done | with_reducible rfl)
  (try simp only [Act.put, List.setIfInBounds_toArray, List.set_cons_zero, List.set_cons_succ])
  refine wpAnyH_done (by kernel_rfl) ?_ _
  refine NoPanic.normal ?_
  (try go_wp2)
  exact bodyPost_ret (v := .tuple #[mtv R, .bool okk]) (by simp [results, Tryz.results111, mtv, go_sem, *]) rfl ⟨rfl, by exact below_⟩
theorem filter_any (p q : Int) (w : World) : Calls Tryz.prog 111 #[.int .i64 p, .int .i64 q] w fun e w' => e = .returned (mtb (filtI p q)) ∧ Below w.heap.size w w' := by
  cases hd : dirOk p q
  · refine (filter_g p q ⟨0, 0, 0⟩ ⟨0, 0, 0⟩ false w (fun w => direction_f p q w hd)).mono fun e w' ⟨h1, h2⟩ => ⟨?_, h2⟩
    rw [h1, filtI, hd]
    rfl
  · refine (filter_g p q (dirC p q) (dirS p q) true w (fun w => direction_t p q w hd)).mono fun e w' ⟨h1, h2⟩ => ⟨?_, h2⟩
    have hm := m4_eq (timesI (dirC p q) (dirC p q)) (timesI (dirC p q) (dirS p q)) (timesI (dirC p q) (dirS p q)) (timesI (dirS p q) (dirS p q))
    rw [h1, filtI, hd]
    cases timesI (dirC p q) (dirC p q) <;> cases timesI (dirC p q) (dirS p q) <;> cases timesI (dirS p q) (dirS p q) <;> rfl
set_option maxHeartbeats 8000000 in
theorem sfilter_f (p q : Int) (w : World) (hd : dirOk p q = false) : Calls Tryz.prog 129 #[.int .i64 p, .int .i64 q] w fun e w' => e = .returned (mtb none) ∧ Below w.heap.size w w' := by
  go_enter Tryz.func129, Tryz.ntmps129
  go_wp2_with (first | (go_at_call 143; (with_reducible refine (sdirection_f p q _ hd).mono ?_); rintro e w1 ⟨rfl, hb⟩; obtain ⟨hc, hf⟩ := bf hb (w.heap.size) side_; have hs := hb.size; (try simp only [World.size_alloc, World.size_setCell, World.size_drew, World.heap_drewN] at hs); have hl : w.heap.size ≤ w1.heap.size := (by omega); obtain ⟨B, hBe, hBl, hc2, hf2⟩ := bfA hb; (try simp only [World.size_alloc, World.size_setCell, World.size_drew, World.heap_drewN] at hBe); have hB : Below w.heap.size w w1 := bstep (by exact below_) hb side_; clear hs hb))
  exact bodyPost_ret (v := mtb none) (by simp [results, Tryz.results129, go_sem, *]) rfl ⟨rfl, by exact below_⟩
theorem four_o (a b c d : Fr) (ok : Bool) (m : Mt) (w : World) (hm : Hid ((if ok then (⟨a, b, c, d⟩ : Mt) else Z12) = m)) :
    Calls Tryz.prog 144 #[frv a, frv b, frv c, frv d, .bool ok] w fun e w' => e = .returned (.tuple #[mtv m, .bool ok]) ∧ Below w.heap.size w w' := by
  cases ok
  · rw [← hm.out]; exact four_f a b c d w
  · rw [← hm.out]; exact four_t a b c d w
theorem stimes_q (a b f : Fr) (ok : Bool) (w : World) (h : Hid (vN (timesI a b) = f ∧ (timesI a b).isSome = ok)) : Calls Tryz.prog 91 #[frv a, frv b] w fun e w' => e = .returned (.tuple #[frv f, .bool ok]) ∧ Below w.heap.size w w' := by
  rw [← h.out.1, ← h.out.2]; exact stimes_any a b w
set_option maxRecDepth 100000 in
set_option maxHeartbeats 8000000 in
theorem sfilter_t (p q : Int) (c d f1 f2 f3 : Fr) (o1 o2 o3 : Bool) (m : Mt) (w : World) (hd : dirOk p q = true) (hcd : Hid (dirC p q = c ∧ dirS p q = d)) (h1 : Hid (vN (timesI c c) = f1 ∧ (timesI c c).isSome = o1)) (h2 : Hid (vN (timesI c d) = f2 ∧ (timesI c d).isSome = o2)) (h3 : Hid (vN (timesI d d) = f3 ∧ (timesI d d).isSome = o3))
    (hm : Hid ((if o1 && o2 && o3 then (⟨f1, f2, f2, f3⟩ : Mt) else Z12) = m)) :
    Calls Tryz.prog 129 #[.int .i64 p, .int .i64 q] w fun e w' => e = .returned (.tuple #[mtv m, .bool (o1 && o2 && o3)]) ∧ Below w.heap.size w w' := by
  have hdir : ∀ w, Calls Tryz.prog 143 #[.int .i64 p, .int .i64 q] w fun e w' => e = .returned (.tuple #[frv c, frv d, .bool true]) ∧ Below w.heap.size w w' := fun w => by
    rw [← hcd.out.1, ← hcd.out.2]; exact sdirection_t p q w hd
  obtain ⟨ok, hok⟩ : ∃ ok, (o1 && o2 && o3) = ok := ⟨_, rfl⟩
  rw [hok] at hm ⊢
  have hfour : ∀ w, Calls Tryz.prog 144 #[frv f1, frv f2, frv f2, frv f3, .bool ok] w fun e w' => e = .returned (.tuple #[mtv m, .bool ok]) ∧ Below w.heap.size w w' := fun w => four_o f1 f2 f2 f3 ok m w hm
  clear hm
  cases o1 <;> cases o2 <;> cases o3 <;> cases ok <;> (try (cases hok; done))
  all_goals clear hok
  all_goals go_enter Tryz.func129, Tryz.ntmps129
  all_goals go_wp2_with (first | (go_at_call 143; (with_reducible refine (hdir _).mono ?_); rintro e w1 ⟨rfl, hb⟩; obtain ⟨hc, hf⟩ := bf hb (w.heap.size) side_; have hs := hb.size; (try simp only [World.size_alloc, World.size_setCell, World.size_drew, World.heap_drewN] at hs); have hl : w.heap.size ≤ w1.heap.size := (by omega); obtain ⟨B, hBe, hBl, hc2, hf2⟩ := bfA hb; (try simp only [World.size_alloc, World.size_setCell, World.size_drew, World.heap_drewN] at hBe); have hB : Below w.heap.size w w1 := bstep (by exact below_) hb side_; clear hs hb) | (go_at_call 91; (with_reducible refine (stimes_q c c f1 _ _ h1).mono ?_); rintro e w1 ⟨rfl, hb⟩; obtain ⟨hc, hf⟩ := bf hb (w.heap.size) side_; have hs := hb.size; (try simp only [World.size_alloc, World.size_setCell, World.size_drew, World.heap_drewN] at hs); have hl : w.heap.size ≤ w1.heap.size := (by omega); obtain ⟨B, hBe, hBl, hc2, hf2⟩ := bfA hb; (try simp only [World.size_alloc, World.size_setCell, World.size_drew, World.heap_drewN] at hBe); have hB : Below w.heap.size w w1 := bstep (by exact below_) hb side_; clear hs hb) | (go_at_call 91; (with_reducible refine (stimes_q c d f2 _ _ h2).mono ?_); rintro e w1 ⟨rfl, hb⟩; obtain ⟨hc, hf⟩ := bf hb (w.heap.size) side_; have hs := hb.size; (try simp only [World.size_alloc, World.size_setCell, World.size_drew, World.heap_drewN] at hs); have hl : w.heap.size ≤ w1.heap.size := (by omega); obtain ⟨B, hBe, hBl, hc2, hf2⟩ := bfA hb; (try simp only [World.size_alloc, World.size_setCell, World.size_drew, World.heap_drewN] at hBe); have hB : Below w.heap.size w w1 := bstep (by exact below_) hb side_; clear hs hb) | (go_at_call 91; (with_reducible refine (stimes_q d d f3 _ _ h3).mono ?_); rintro e w1 ⟨rfl, hb⟩; obtain ⟨hc, hf⟩ := bf hb (w.heap.size) side_; have hs := hb.size; (try simp only [World.size_alloc, World.size_setCell, World.size_drew, World.heap_drewN] at hs); have hl : w.heap.size ≤ w1.heap.size := (by omega); obtain ⟨B, hBe, hBl, hc2, hf2⟩ := bfA hb; (try simp only [World.size_alloc, World.size_setCell, World.size_drew, World.heap_drewN] at hBe); have hB : Below w.heap.size w w1 := bstep (by exact below_) hb side_; clear hs hb) | (go_at_call 144; (with_reducible refine (hfour _).mono ?_); rintro e w1 ⟨rfl, hb⟩; obtain ⟨hc, hf⟩ := bf hb (w.heap.size) side_; have hs := hb.size; (try simp only [World.size_alloc, World.size_setCell, World.size_drew, World.heap_drewN] at hs); have hl : w.heap.size ≤ w1.heap.size := (by omega); obtain ⟨B, hBe, hBl, hc2, hf2⟩ := bfA hb; (try simp only [World.size_alloc, World.size_setCell, World.size_drew, World.heap_drewN] at hBe); have hB : Below w.heap.size w w1 := bstep (by exact below_) hb side_; clear hs hb))
  iterate 7 (exact bodyPost_ret (v := .tuple #[mtv m, .bool false]) (by simp [results, Tryz.results129, mtv, go_sem, *]) rfl ⟨rfl, by exact below_⟩)
  exact bodyPost_ret (v := .tuple #[mtv m, .bool true]) (by simp [results, Tryz.results129, mtv, go_sem, *]) rfl ⟨rfl, by exact below_⟩
theorem sfilter_any (p q : Int) (w : World) : Calls Tryz.prog 129 #[.int .i64 p, .int .i64 q] w fun e w' => e = .returned (mtb (filtI p q)) ∧ Below w.heap.size w w' := by
  cases hd : dirOk p q
  · refine (sfilter_f p q w hd).mono fun e w' ⟨h1, h2⟩ => ⟨?_, h2⟩
    rw [h1, filtI, hd]
    rfl
  · refine (sfilter_t p q _ _ _ _ _ _ _ _ _ w hd (Lib.hid ⟨rfl, rfl⟩) (Lib.hid ⟨rfl, rfl⟩) (Lib.hid ⟨rfl, rfl⟩) (Lib.hid ⟨rfl, rfl⟩) rfl).mono fun e w' ⟨h1, h2⟩ => ⟨?_, h2⟩
    rw [h1, filtI, hd]
    cases timesI (dirC p q) (dirC p q) <;> cases timesI (dirC p q) (dirS p q) <;> cases timesI (dirS p q) (dirS p q) <;> rfl
end
section
open Go.RowKit
attribute [local go_sem ↓] Go.wp_at_zero Go.wp_at_succ
def NP2 (b g cap : Nat) (k n0 n1 : Int) (w' : World) : Prop := w'.cell? ⟨b, 0, none⟩ = some (.int .u8 k) ∧ w'.cell? ⟨b, 1, none⟩ = some (.slice (some ⟨g, 0, none⟩) 2 cap) ∧ w'.cell? ⟨g, 0, none⟩ = some (.int .i64 n0) ∧ w'.cell? ⟨g, 1, none⟩ = some (.int .i64 n1)
theorem NP2.of {b g cap : Nat} {k n0 n1 : Int} {w W : World} (h : NP2 b g cap k n0 n1 w) (h1 : b < w.heap.size) (h2 : g < w.heap.size) (hb : Below w.heap.size w W) : NP2 b g cap k n0 n1 W := ⟨(hb.cell (p := ⟨_, _, _⟩) h1).trans h.1, (hb.cell (p := ⟨_, _, _⟩) h1).trans h.2.1, (hb.cell (p := ⟨_, _, _⟩) h2).trans h.2.2.1, (hb.cell (p := ⟨_, _, _⟩) h2).trans h.2.2.2⟩
def NP3 (b g cap : Nat) (k n0 n1 n2 : Int) (w' : World) : Prop := w'.cell? ⟨b, 0, none⟩ = some (.int .u8 k) ∧ w'.cell? ⟨b, 1, none⟩ = some (.slice (some ⟨g, 0, none⟩) 3 cap) ∧ w'.cell? ⟨g, 0, none⟩ = some (.int .i64 n0) ∧ w'.cell? ⟨g, 1, none⟩ = some (.int .i64 n1) ∧ w'.cell? ⟨g, 2, none⟩ = some (.int .i64 n2)
theorem NP3.of {b g cap : Nat} {k n0 n1 n2 : Int} {w W : World} (h : NP3 b g cap k n0 n1 n2 w) (h1 : b < w.heap.size) (h2 : g < w.heap.size) (hb : Below w.heap.size w W) : NP3 b g cap k n0 n1 n2 W := ⟨(hb.cell (p := ⟨_, _, _⟩) h1).trans h.1, (hb.cell (p := ⟨_, _, _⟩) h1).trans h.2.1, (hb.cell (p := ⟨_, _, _⟩) h2).trans h.2.2.1, (hb.cell (p := ⟨_, _, _⟩) h2).trans h.2.2.2.1, (hb.cell (p := ⟨_, _, _⟩) h2).trans h.2.2.2.2⟩
theorem far12 {W : World} {r b o : Nat} {v0 v1 v2 v3 v4 v5 v6 v7 v8 v9 v10 v11 : Value} (hb : b ≠ r) : (((((((((((((W.setCell ⟨r, 0, none⟩ v0).setCell ⟨r, 1, none⟩ v1).setCell ⟨r, 2, none⟩ v2).setCell ⟨r, 3, none⟩ v3).setCell ⟨r, 4, none⟩ v4).setCell ⟨r, 5, none⟩ v5).setCell ⟨r, 6, none⟩ v6).setCell ⟨r, 7, none⟩ v7).setCell ⟨r, 8, none⟩ v8).setCell ⟨r, 9, none⟩ v9).setCell ⟨r, 10, none⟩ v10).setCell ⟨r, 11, none⟩ v11)).cell? ⟨b, o, none⟩ = W.cell? ⟨b, o, none⟩ := World.cell?_of_block ((Below.heap_setCell _ _ _ b hb).trans ((Below.heap_setCell _ _ _ b hb).trans ((Below.heap_setCell _ _ _ b hb).trans ((Below.heap_setCell _ _ _ b hb).trans ((Below.heap_setCell _ _ _ b hb).trans ((Below.heap_setCell _ _ _ b hb).trans ((Below.heap_setCell _ _ _ b hb).trans ((Below.heap_setCell _ _ _ b hb).trans ((Below.heap_setCell _ _ _ b hb).trans ((Below.heap_setCell _ _ _ b hb).trans ((Below.heap_setCell _ _ _ b hb).trans (Below.heap_setCell _ _ _ b hb))))))))))))
theorem NP2.set {b g cap : Nat} {k n0 n1 : Int} {W : World} (h : NP2 b g cap k n0 n1 W) {r : Nat} (h1 : b ≠ r) (h2 : g ≠ r) (v0 v1 v2 v3 v4 v5 v6 v7 v8 v9 v10 v11 : Value) : NP2 b g cap k n0 n1 (((((((((((((W.setCell ⟨r, 0, none⟩ v0).setCell ⟨r, 1, none⟩ v1).setCell ⟨r, 2, none⟩ v2).setCell ⟨r, 3, none⟩ v3).setCell ⟨r, 4, none⟩ v4).setCell ⟨r, 5, none⟩ v5).setCell ⟨r, 6, none⟩ v6).setCell ⟨r, 7, none⟩ v7).setCell ⟨r, 8, none⟩ v8).setCell ⟨r, 9, none⟩ v9).setCell ⟨r, 10, none⟩ v10).setCell ⟨r, 11, none⟩ v11)) :=
  ⟨(far12 h1).trans h.1, (far12 h1).trans h.2.1, (far12 h2).trans h.2.2.1, (far12 h2).trans h.2.2.2⟩
theorem NP3.set {b g cap : Nat} {k n0 n1 n2 : Int} {W : World} (h : NP3 b g cap k n0 n1 n2 W) {r : Nat} (h1 : b ≠ r) (h2 : g ≠ r) (v0 v1 v2 v3 v4 v5 v6 v7 v8 v9 v10 v11 : Value) : NP3 b g cap k n0 n1 n2 (((((((((((((W.setCell ⟨r, 0, none⟩ v0).setCell ⟨r, 1, none⟩ v1).setCell ⟨r, 2, none⟩ v2).setCell ⟨r, 3, none⟩ v3).setCell ⟨r, 4, none⟩ v4).setCell ⟨r, 5, none⟩ v5).setCell ⟨r, 6, none⟩ v6).setCell ⟨r, 7, none⟩ v7).setCell ⟨r, 8, none⟩ v8).setCell ⟨r, 9, none⟩ v9).setCell ⟨r, 10, none⟩ v10).setCell ⟨r, 11, none⟩ v11)) :=
  ⟨(far12 h1).trans h.1, (far12 h1).trans h.2.1, (far12 h2).trans h.2.2.1, (far12 h2).trans h.2.2.2.1, (far12 h2).trans h.2.2.2.2⟩
theorem blk_free0 {W : World} {ty : TypeId} {b : Nat} {cs : Array Value} (h : Blk W b cs ty) (o : Nat) : W.frozen? ⟨b, o, none⟩ = false := by simp [World.frozen?, h]
set_option maxHeartbeats 4000000 in
theorem share_any (k : Int) (nv : Value) (b : ByteArray) (n0 n1 : Int) (w : World) (hn : NumsAt w nv [n0, n1]) (h1 : 1 ≤ n1) (h2 : n1 ≤ 100) (h3 : 0 ≤ n0) (h4 : n0 ≤ n1) :
    Calls Tryz.prog 112 #[.agg #[.int .u8 k, nv, .string b]] w fun e w' => e = .returned (frv (shareF n0 n1)) ∧ Below w.heap.size w w' := by
  obtain ⟨g, cap, rfl, hcap, hcm, hlt, hc⟩ := hn
  have c0 := hc 0 n0 rfl
  have c1 := hc 1 n1 rfl
  have hcap2 : 2 ≤ cap := hcap
  clear hc hcap
  obtain ⟨W0, hW0, hC, hR, hB0, hpl, hgl⟩ : ∃ W, W = (w.alloc (.cells #[.int .u8 k, .slice (some ⟨g, 0, none⟩) 2 cap, .string b] 90)).alloc (.cells #[.int .i64 0, .int .i64 0, .int .i64 0] 24) ∧ NP2 w.heap.size g cap k n0 n1 W ∧ Blk W (w.heap.size + 1) (frc ⟨0, 0, 0⟩) 24 ∧ Below w.heap.size w W ∧ w.heap.size < W.heap.size ∧ g < W.heap.size := by
    have hb : Below w.heap.size w ((w.alloc (.cells #[.int .u8 k, .slice (some ⟨g, 0, none⟩) 2 cap, .string b] 90)).alloc (.cells #[.int .i64 0, .int .i64 0, .int .i64 0] 24)) := by exact below_
    refine ⟨_, rfl, ⟨?_, ?_, (hb.cell (p := ⟨_, _, _⟩) hlt).trans c0, (hb.cell (p := ⟨_, _, _⟩) hlt).trans c1⟩, ?_, hb, by simp; omega, by simp; omega⟩
    · exact (((Below.refl _ _).alloc (Nat.le_refl _) _).cell (p := ⟨_, _, _⟩) (by simp)).trans (World.cell?_alloc_at _ _ _ _ rfl)
    · exact (((Below.refl _ _).alloc (Nat.le_refl _) _).cell (p := ⟨_, _, _⟩) (by simp)).trans (World.cell?_alloc_at _ _ _ _ rfl)
    · have := heap_alloc_last (w.alloc (.cells #[.int .u8 k, .slice (some ⟨g, 0, none⟩) 2 cap, .string b] 90)) (.cells (frc ⟨0, 0, 0⟩) 24)
      rwa [World.size_alloc] at this
  obtain ⟨p0, p1, d0, d1⟩ := hC
  have hC : NP2 w.heap.size g cap k n0 n1 W0 := ⟨p0, p1, d0, d1⟩
  clear c0 c1
  go_enter Tryz.func112, Tryz.ntmps112
  go_upto_region 1 with fail
  rw [← hW0]
  clear hW0
  go_cut [3, 4] from 5 to 16 (fun s3 _ wx => ∃ b3, s3 = .pointer (some ⟨b3, 0, none⟩) ∧ (wx.cell? ⟨b3, 0, none⟩ = some (.int .i64 (shareF n0 n1).re) ∧ wx.cell? ⟨b3, 1, none⟩ = some (.int .i64 (shareF n0 n1).im) ∧ wx.cell? ⟨b3, 2, none⟩ = some (.int .i64 (shareF n0 n1).den)) ∧ Below W0.heap.size W0 wx)
  case first =>
    go_region_held3 (fun w' => w'.cell? ⟨w.heap.size, 0, none⟩ = some (.int .u8 k) ∧ w'.cell? ⟨w.heap.size, 1, none⟩ = some (.slice (some ⟨g, 0, none⟩) 2 cap) ∧ w'.cell? ⟨g, 0, none⟩ = some (.int .i64 n0) ∧ w'.cell? ⟨g, 1, none⟩ = some (.int .i64 n1)) ((refine hC.of hpl hgl ?_; (repeat' (first | (with_reducible exact Below.refl _ _) | (with_reducible assumption) | (with_reducible refine Below.setCell ?_ (by first | omega | (simp; done) | (simp; omega)) _) | (with_reducible refine Below.alloc ?_ (by first | omega | (simp; done) | (simp; omega)) _) | (with_reducible refine below_drewN ?_ _) | (with_reducible refine Below.drew ?_))))) (first | (go_at_call 59; (with_reducible refine (lowest_any n0 0 n1 _ (by omega) (by omega) (by omega) (by omega) (by omega) (by omega)).mono ?_); rintro e w1 ⟨rfl, hb⟩; obtain ⟨hc, hf⟩ := bf hb (W0.heap.size) side_; have hs := hb.size; (try simp only [World.size_alloc, World.size_setCell, World.size_drew, World.heap_drewN] at hs); have hl : W0.heap.size ≤ w1.heap.size := (by omega); obtain ⟨B, hBe, hBl, hc2, hf2⟩ := bfA hb; (try simp only [World.size_alloc, World.size_setCell, World.size_drew, World.heap_drewN] at hBe); have hB : Below W0.heap.size W0 w1 := bstep (by exact below_) hb side_; clear hs hb))
    all_goals (go_wp2; go_meet; exact ⟨_, rfl, (by refine ⟨?_, ?_, ?_⟩ <;> (first | (with_reducible exact World.cell?_alloc_at _ _ _ _ rfl) | (simp [shareF, go_sem, *]; done))), by exact below_⟩)
  case rest =>
    obtain ⟨b3, rfl, ⟨f0, f1, f2⟩, hB⟩ := hcut
    have hR2 := (hB.block _ (blk_lt hR)).trans hR
    obtain ⟨r0, r1, r2⟩ := blk_fr0 hR2
    have g0 := blk_free0 hR2 0
    have g1 := blk_free0 hR2 1
    have g2 := blk_free0 hR2 2
    have hBw := bstep hB0 hB hB0.size
    go_wp2
    exact bodyPost_ret (v := frv (shareF n0 n1)) (by simp [results, Tryz.results112, go_sem, *]) rfl ⟨rfl, by exact below_⟩
theorem mat_out {W : World} {r : Nat} {ty : TypeId} (h : Blk W r (mtc ⟨zK, zK, zK, zK⟩) ty) : (∀ o, o < 12 → W.cell? ⟨r, o, none⟩ = some (.int .i64 0)) ∧ ∀ o, W.frozen? ⟨r, o, none⟩ = false := by
  refine ⟨fun o ho => ?_, fun o => ?_⟩
  · have : (mtc ⟨zK, zK, zK, zK⟩)[o]? = some (.int .i64 0) := by
      match o, ho with
      | 0, _ => rfl | 1, _ => rfl | 2, _ => rfl | 3, _ => rfl | 4, _ => rfl | 5, _ => rfl | 6, _ => rfl | 7, _ => rfl | 8, _ => rfl | 9, _ => rfl | 10, _ => rfl | 11, _ => rfl
    rw [cell_of_row W r o _ _ _ h]; exact this
  · simp [World.frozen?, h]
theorem NP2.after {b g cap : Nat} {k n0 n1 : Int} {W : World} (h : NP2 b g cap k n0 n1 W) {r : Nat} (h1 : b ≠ r) (h2 : g ≠ r) (v0 v1 v2 v3 v4 v5 v6 v7 v8 v9 v10 v11 : Value) : (fun w' => w'.cell? ⟨b, 0, none⟩ = some (.int .u8 k) ∧ w'.cell? ⟨b, 1, none⟩ = some (.slice (some ⟨g, 0, none⟩) 2 cap) ∧ w'.cell? ⟨g, 0, none⟩ = some (.int .i64 n0) ∧ w'.cell? ⟨g, 1, none⟩ = some (.int .i64 n1)) (((((((((((((W.setCell ⟨r, 0, none⟩ v0).setCell ⟨r, 1, none⟩ v1).setCell ⟨r, 2, none⟩ v2).setCell ⟨r, 3, none⟩ v3).setCell ⟨r, 4, none⟩ v4).setCell ⟨r, 5, none⟩ v5).setCell ⟨r, 6, none⟩ v6).setCell ⟨r, 7, none⟩ v7).setCell ⟨r, 8, none⟩ v8).setCell ⟨r, 9, none⟩ v9).setCell ⟨r, 10, none⟩ v10).setCell ⟨r, 11, none⟩ v11)) := h.set h1 h2 v0 v1 v2 v3 v4 v5 v6 v7 v8 v9 v10 v11
theorem NP3.after {b g cap : Nat} {k n0 n1 n2 : Int} {W : World} (h : NP3 b g cap k n0 n1 n2 W) {r : Nat} (h1 : b ≠ r) (h2 : g ≠ r) (v0 v1 v2 v3 v4 v5 v6 v7 v8 v9 v10 v11 : Value) : (fun w' => w'.cell? ⟨b, 0, none⟩ = some (.int .u8 k) ∧ w'.cell? ⟨b, 1, none⟩ = some (.slice (some ⟨g, 0, none⟩) 3 cap) ∧ w'.cell? ⟨g, 0, none⟩ = some (.int .i64 n0) ∧ w'.cell? ⟨g, 1, none⟩ = some (.int .i64 n1) ∧ w'.cell? ⟨g, 2, none⟩ = some (.int .i64 n2)) (((((((((((((W.setCell ⟨r, 0, none⟩ v0).setCell ⟨r, 1, none⟩ v1).setCell ⟨r, 2, none⟩ v2).setCell ⟨r, 3, none⟩ v3).setCell ⟨r, 4, none⟩ v4).setCell ⟨r, 5, none⟩ v5).setCell ⟨r, 6, none⟩ v6).setCell ⟨r, 7, none⟩ v7).setCell ⟨r, 8, none⟩ v8).setCell ⟨r, 9, none⟩ v9).setCell ⟨r, 10, none⟩ v10).setCell ⟨r, 11, none⟩ v11)) := h.set h1 h2 v0 v1 v2 v3 v4 v5 v6 v7 v8 v9 v10 v11
def NA (pb g cap : Nat) (k : Int) (b : ByteArray) (w' : World) : Prop := (w'.cell? ⟨pb, 0, none⟩ = some (.int .u8 k) ∧ w'.cell? ⟨pb, 1, none⟩ = some (.slice (some ⟨g, 0, none⟩) 2 cap) ∧ w'.cell? ⟨pb, 2, none⟩ = some (.string b)) ∧ (w'.cell? ⟨0, 0, none⟩ = some (.int .i64 0) ∧ w'.cell? ⟨0, 1, none⟩ = some (.int .i64 0) ∧ w'.cell? ⟨0, 2, none⟩ = some (.int .i64 1))
theorem NA.of {pb g cap : Nat} {k : Int} {b : ByteArray} {w W : World} (h : NA pb g cap k b w) (h1 : pb < w.heap.size) (h2 : 0 < w.heap.size) (hb : Below w.heap.size w W) : NA pb g cap k b W :=
  ⟨⟨(hb.cell (p := ⟨_, _, _⟩) h1).trans h.1.1, (hb.cell (p := ⟨_, _, _⟩) h1).trans h.1.2.1, (hb.cell (p := ⟨_, _, _⟩) h1).trans h.1.2.2⟩, (hb.cell (p := ⟨_, _, _⟩) h2).trans h.2.1, (hb.cell (p := ⟨_, _, _⟩) h2).trans h.2.2.1, (hb.cell (p := ⟨_, _, _⟩) h2).trans h.2.2.2⟩
theorem NA.after {w : World} {g cap : Nat} {k : Int} {b : ByteArray} {W : World} (h : NA w.heap.size g cap k b W) {r : Nat} (h1 : w.heap.size ≠ r) (h2 : 0 ≠ r) (v0 v1 v2 v3 v4 v5 v6 v7 v8 v9 v10 v11 : Value) : (fun w' => (w'.cell? ⟨w.heap.size, 0, none⟩ = some (.int .u8 k) ∧ w'.cell? ⟨w.heap.size, 1, none⟩ = some (.slice (some ⟨g, 0, none⟩) 2 cap) ∧ w'.cell? ⟨w.heap.size, 2, none⟩ = some (.string b)) ∧ (w'.cell? ⟨0, 0, none⟩ = some (.int .i64 0) ∧ w'.cell? ⟨0, 1, none⟩ = some (.int .i64 0) ∧ w'.cell? ⟨0, 2, none⟩ = some (.int .i64 1))) (((((((((((((W.setCell ⟨r, 0, none⟩ v0).setCell ⟨r, 1, none⟩ v1).setCell ⟨r, 2, none⟩ v2).setCell ⟨r, 3, none⟩ v3).setCell ⟨r, 4, none⟩ v4).setCell ⟨r, 5, none⟩ v5).setCell ⟨r, 6, none⟩ v6).setCell ⟨r, 7, none⟩ v7).setCell ⟨r, 8, none⟩ v8).setCell ⟨r, 9, none⟩ v9).setCell ⟨r, 10, none⟩ v10).setCell ⟨r, 11, none⟩ v11)) :=
  ⟨⟨(far12 h1).trans h.1.1, (far12 h1).trans h.1.2.1, (far12 h1).trans h.1.2.2⟩, (far12 h2).trans h.2.1, (far12 h2).trans h.2.2.1, (far12 h2).trans h.2.2.2⟩
set_option maxRecDepth 100000 in
set_option maxHeartbeats 8000000 in
theorem mat_r (nv : Value) (b : ByteArray) (n0 n1 : Int) (m : Mt) (ok : Bool) (w : World) (hn : NumsAt w nv [n0, n1]) (hm : Hid ((rotI n0 n1).getD Z12 = m ∧ (rotI n0 n1).isSome = ok)) :
    Calls Tryz.prog 77 #[.agg #[.int .u8 114, nv, .string b]] w fun e w' => e = .returned (.tuple #[mtv m, .bool ok]) ∧ Below w.heap.size w w' := by
  have hcon : ∀ w, Calls Tryz.prog 109 #[.int .i64 n0, .int .i64 n1] w fun e w' => e = .returned (.tuple #[mtv m, .bool ok]) ∧ Below w.heap.size w w' := fun w => by
    rw [← hm.out.1, ← hm.out.2]; exact rot_any n0 n1 w
  obtain ⟨k, hk⟩ : ∃ k : Int, k = 114 := ⟨_, rfl⟩
  rw [← hk]
  obtain ⟨g, cap, rfl, hcap, hcm, hlt, hc⟩ := hn
  have c0 := hc 0 n0 rfl
  have c1 := hc 1 n1 rfl
  have hcap2 : 2 ≤ cap := hcap
  clear hc hcap
  obtain ⟨W0, hW0, hC, hR, hB0, hpl, hgl, hrl, hgr, ht2⟩ : ∃ W, W = (w.alloc (.cells #[.int .u8 k, .slice (some ⟨g, 0, none⟩) 2 cap, .string b] 90)).alloc (.cells #[.int .i64 0, .int .i64 0, .int .i64 0, .int .i64 0, .int .i64 0, .int .i64 0, .int .i64 0, .int .i64 0, .int .i64 0, .int .i64 0, .int .i64 0, .int .i64 0] 92) ∧ NP2 w.heap.size g cap k n0 n1 W ∧ Blk W (w.heap.size + 1) (mtc ⟨zK, zK, zK, zK⟩) 92 ∧ Below w.heap.size w W ∧ w.heap.size < W.heap.size ∧ g < W.heap.size ∧ w.heap.size + 1 < W.heap.size ∧ g ≠ w.heap.size + 1 ∧ W.cell? ⟨w.heap.size, 2, none⟩ = some (.string b) := by
    have hb : Below w.heap.size w ((w.alloc (.cells #[.int .u8 k, .slice (some ⟨g, 0, none⟩) 2 cap, .string b] 90)).alloc (.cells #[.int .i64 0, .int .i64 0, .int .i64 0, .int .i64 0, .int .i64 0, .int .i64 0, .int .i64 0, .int .i64 0, .int .i64 0, .int .i64 0, .int .i64 0, .int .i64 0] 92)) := by exact below_
    refine ⟨_, rfl, ⟨?_, ?_, (hb.cell (p := ⟨_, _, _⟩) hlt).trans c0, (hb.cell (p := ⟨_, _, _⟩) hlt).trans c1⟩, ?_, hb, by simp; omega, by simp; omega, by simp, by omega, ?_⟩
    · exact (((Below.refl _ _).alloc (Nat.le_refl _) _).cell (p := ⟨_, _, _⟩) (by simp)).trans (World.cell?_alloc_at _ _ _ _ rfl)
    · exact (((Below.refl _ _).alloc (Nat.le_refl _) _).cell (p := ⟨_, _, _⟩) (by simp)).trans (World.cell?_alloc_at _ _ _ _ rfl)
    · have := heap_alloc_last (w.alloc (.cells #[.int .u8 k, .slice (some ⟨g, 0, none⟩) 2 cap, .string b] 90)) (.cells (mtc ⟨zK, zK, zK, zK⟩) 92)
      rwa [World.size_alloc] at this
    · exact (((Below.refl _ _).alloc (Nat.le_refl _) _).cell (p := ⟨_, _, _⟩) (by simp)).trans (World.cell?_alloc_at _ _ _ _ rfl)
  obtain ⟨p0, p1, d0, d1⟩ := hC
  have hC : NP2 w.heap.size g cap k n0 n1 W0 := ⟨p0, p1, d0, d1⟩
  have hpr : w.heap.size ≠ w.heap.size + 1 := by omega
  clear c0 c1
  have HK := Lib.hid hk
  have k1 : (k == 114) = true := by rw [hk]; rfl
  have k2 : (k == 119) = false := by rw [hk]; rfl
  have k3 : (k == 102) = false := by rw [hk]; rfl
  have k4 : (k == 97) = false := by rw [hk]; rfl
  clear hk
  go_enter Tryz.func77, Tryz.ntmps77
  go_upto_region 3 with fail
  rw [← hW0]
  clear hW0
  go_region_held3 (fun w' => w'.cell? ⟨w.heap.size, 0, none⟩ = some (.int .u8 k) ∧ w'.cell? ⟨w.heap.size, 1, none⟩ = some (.slice (some ⟨g, 0, none⟩) 2 cap) ∧ w'.cell? ⟨g, 0, none⟩ = some (.int .i64 n0) ∧ w'.cell? ⟨g, 1, none⟩ = some (.int .i64 n1)) ((first | (refine hC.of hpl hgl ?_; with_reducible first | assumption | exact Below.drew (by assumption) | exact Below.refl _ _ | exact Below.drew (Below.refl _ _)) | (exact NP2.after (hC.of hpl hgl (by with_reducible assumption)) hpr hgr _ _ _ _ _ _ _ _ _ _ _ _))) (first | (go_at_call 109; (with_reducible refine (hcon _).mono ?_); rintro e w1 ⟨rfl, hb⟩; have hB : Below W0.heap.size W0 w1 := bstep (by (repeat' (first | (with_reducible exact Below.refl _ _) | (with_reducible assumption) | (with_reducible refine Below.setCell ?_ (by first | omega | (simp; done) | (simp; omega)) _) | (with_reducible refine Below.alloc ?_ (by first | omega | (simp; done) | (simp; omega)) _) | (with_reducible refine below_drewN ?_ _) | (with_reducible refine Below.drew ?_)))) hb side_; have hMr := (hB.block _ hrl).trans hR; obtain ⟨ho1, ho2⟩ := mat_out hMr; have k0 := ho1 0 (by decide); have k1 := ho1 1 (by decide); have k2 := ho1 2 (by decide); have k3 := ho1 3 (by decide); have k4 := ho1 4 (by decide); have k5 := ho1 5 (by decide); have k6 := ho1 6 (by decide); have k7 := ho1 7 (by decide); have k8 := ho1 8 (by decide); have k9 := ho1 9 (by decide); have k10 := ho1 10 (by decide); have k11 := ho1 11 (by decide); clear ho1 hb hMr))
  have hBw : Below w.heap.size w w1 := bstep hB0 hB hB0.size
  (try go_wp2)
  exact bodyPost_ret (v := .tuple #[mtv m, .bool ok]) (by simp [results, Tryz.results77, mtv, go_sem, *]) rfl ⟨rfl, by exact below_⟩
set_option maxRecDepth 100000 in
set_option maxHeartbeats 8000000 in
theorem mat_w (nv : Value) (b : ByteArray) (n0 n1 n2 : Int) (m : Mt) (ok : Bool) (w : World) (hn : NumsAt w nv [n0, n1, n2]) (hO : GO w) (hZ : GZ w) (hT : GT w) (hm : Hid ((plateI n0 n1 n2).getD Z12 = m ∧ (plateI n0 n1 n2).isSome = ok)) :
    Calls Tryz.prog 77 #[.agg #[.int .u8 119, nv, .string b]] w fun e w' => e = .returned (.tuple #[mtv m, .bool ok]) ∧ Below w.heap.size w w' := by
  have hcon : ∀ w, GO w → GZ w → GT w → Calls Tryz.prog 110 #[.int .i64 n0, .int .i64 n1, .int .i64 n2] w fun e w' => e = .returned (.tuple #[mtv m, .bool ok]) ∧ Below w.heap.size w w' := fun w hO hZ hT => by
    rw [← hm.out.1, ← hm.out.2]; exact plate_any n0 n1 n2 w hO hZ hT
  obtain ⟨k, hk⟩ : ∃ k : Int, k = 119 := ⟨_, rfl⟩
  rw [← hk]
  obtain ⟨g, cap, rfl, hcap, hcm, hlt, hc⟩ := hn
  have c0 := hc 0 n0 rfl
  have c1 := hc 1 n1 rfl
  have c2 := hc 2 n2 rfl
  have hcap2 : 3 ≤ cap := hcap
  clear hc hcap
  obtain ⟨W0, hW0, hC, hR, hB0, hpl, hgl, hrl, hgr, ht2⟩ : ∃ W, W = (w.alloc (.cells #[.int .u8 k, .slice (some ⟨g, 0, none⟩) 3 cap, .string b] 90)).alloc (.cells #[.int .i64 0, .int .i64 0, .int .i64 0, .int .i64 0, .int .i64 0, .int .i64 0, .int .i64 0, .int .i64 0, .int .i64 0, .int .i64 0, .int .i64 0, .int .i64 0] 92) ∧ NP3 w.heap.size g cap k n0 n1 n2 W ∧ Blk W (w.heap.size + 1) (mtc ⟨zK, zK, zK, zK⟩) 92 ∧ Below w.heap.size w W ∧ w.heap.size < W.heap.size ∧ g < W.heap.size ∧ w.heap.size + 1 < W.heap.size ∧ g ≠ w.heap.size + 1 ∧ W.cell? ⟨w.heap.size, 2, none⟩ = some (.string b) := by
    have hb : Below w.heap.size w ((w.alloc (.cells #[.int .u8 k, .slice (some ⟨g, 0, none⟩) 3 cap, .string b] 90)).alloc (.cells #[.int .i64 0, .int .i64 0, .int .i64 0, .int .i64 0, .int .i64 0, .int .i64 0, .int .i64 0, .int .i64 0, .int .i64 0, .int .i64 0, .int .i64 0, .int .i64 0] 92)) := by exact below_
    refine ⟨_, rfl, ⟨?_, ?_, (hb.cell (p := ⟨_, _, _⟩) hlt).trans c0, (hb.cell (p := ⟨_, _, _⟩) hlt).trans c1, (hb.cell (p := ⟨_, _, _⟩) hlt).trans c2⟩, ?_, hb, by simp; omega, by simp; omega, by simp, by omega, ?_⟩
    · exact (((Below.refl _ _).alloc (Nat.le_refl _) _).cell (p := ⟨_, _, _⟩) (by simp)).trans (World.cell?_alloc_at _ _ _ _ rfl)
    · exact (((Below.refl _ _).alloc (Nat.le_refl _) _).cell (p := ⟨_, _, _⟩) (by simp)).trans (World.cell?_alloc_at _ _ _ _ rfl)
    · have := heap_alloc_last (w.alloc (.cells #[.int .u8 k, .slice (some ⟨g, 0, none⟩) 3 cap, .string b] 90)) (.cells (mtc ⟨zK, zK, zK, zK⟩) 92)
      rwa [World.size_alloc] at this
    · exact (((Below.refl _ _).alloc (Nat.le_refl _) _).cell (p := ⟨_, _, _⟩) (by simp)).trans (World.cell?_alloc_at _ _ _ _ rfl)
  obtain ⟨p0, p1, d0, d1, d2⟩ := hC
  have hC : NP3 w.heap.size g cap k n0 n1 n2 W0 := ⟨p0, p1, d0, d1, d2⟩
  have hpr : w.heap.size ≠ w.heap.size + 1 := by omega
  clear c0 c1 c2
  have HK := Lib.hid hk
  have k1 : (k == 114) = false := by rw [hk]; rfl
  have k2 : (k == 119) = true := by rw [hk]; rfl
  have k3 : (k == 102) = false := by rw [hk]; rfl
  have k4 : (k == 97) = false := by rw [hk]; rfl
  clear hk
  go_enter Tryz.func77, Tryz.ntmps77
  go_upto_region 5 with fail
  rw [← hW0]
  clear hW0
  go_region_held3 (fun w' => w'.cell? ⟨w.heap.size, 0, none⟩ = some (.int .u8 k) ∧ w'.cell? ⟨w.heap.size, 1, none⟩ = some (.slice (some ⟨g, 0, none⟩) 3 cap) ∧ w'.cell? ⟨g, 0, none⟩ = some (.int .i64 n0) ∧ w'.cell? ⟨g, 1, none⟩ = some (.int .i64 n1) ∧ w'.cell? ⟨g, 2, none⟩ = some (.int .i64 n2)) ((first | (refine hC.of hpl hgl ?_; with_reducible first | assumption | exact Below.drew (by assumption) | exact Below.refl _ _ | exact Below.drew (Below.refl _ _)) | (exact NP3.after (hC.of hpl hgl (by with_reducible assumption)) hpr hgr _ _ _ _ _ _ _ _ _ _ _ _))) (first | (go_at_call 110; (with_reducible refine (hcon _ (hO.below (bstep hB0 (by (repeat' (first | (with_reducible exact Below.refl _ _) | (with_reducible assumption) | (with_reducible refine Below.setCell ?_ (by first | omega | (simp; done) | (simp; omega)) _) | (with_reducible refine Below.alloc ?_ (by first | omega | (simp; done) | (simp; omega)) _) | (with_reducible refine below_drewN ?_ _) | (with_reducible refine Below.drew ?_)))) hB0.size)) (hZ.below (bstep hB0 (by (repeat' (first | (with_reducible exact Below.refl _ _) | (with_reducible assumption) | (with_reducible refine Below.setCell ?_ (by first | omega | (simp; done) | (simp; omega)) _) | (with_reducible refine Below.alloc ?_ (by first | omega | (simp; done) | (simp; omega)) _) | (with_reducible refine below_drewN ?_ _) | (with_reducible refine Below.drew ?_)))) hB0.size)) (hT.below (bstep hB0 (by (repeat' (first | (with_reducible exact Below.refl _ _) | (with_reducible assumption) | (with_reducible refine Below.setCell ?_ (by first | omega | (simp; done) | (simp; omega)) _) | (with_reducible refine Below.alloc ?_ (by first | omega | (simp; done) | (simp; omega)) _) | (with_reducible refine below_drewN ?_ _) | (with_reducible refine Below.drew ?_)))) hB0.size))).mono ?_); rintro e w1 ⟨rfl, hb⟩; have hB : Below W0.heap.size W0 w1 := bstep (by (repeat' (first | (with_reducible exact Below.refl _ _) | (with_reducible assumption) | (with_reducible refine Below.setCell ?_ (by first | omega | (simp; done) | (simp; omega)) _) | (with_reducible refine Below.alloc ?_ (by first | omega | (simp; done) | (simp; omega)) _) | (with_reducible refine below_drewN ?_ _) | (with_reducible refine Below.drew ?_)))) hb side_; have hMr := (hB.block _ hrl).trans hR; obtain ⟨ho1, ho2⟩ := mat_out hMr; have k0 := ho1 0 (by decide); have k1 := ho1 1 (by decide); have k2 := ho1 2 (by decide); have k3 := ho1 3 (by decide); have k4 := ho1 4 (by decide); have k5 := ho1 5 (by decide); have k6 := ho1 6 (by decide); have k7 := ho1 7 (by decide); have k8 := ho1 8 (by decide); have k9 := ho1 9 (by decide); have k10 := ho1 10 (by decide); have k11 := ho1 11 (by decide); clear ho1 hb hMr))
  have hBw : Below w.heap.size w w1 := bstep hB0 hB hB0.size
  (try go_wp2)
  exact bodyPost_ret (v := .tuple #[mtv m, .bool ok]) (by simp [results, Tryz.results77, mtv, go_sem, *]) rfl ⟨rfl, by exact below_⟩
set_option maxRecDepth 100000 in
set_option maxHeartbeats 8000000 in
theorem mat_f (nv : Value) (b : ByteArray) (n0 n1 : Int) (m : Mt) (ok : Bool) (w : World) (hn : NumsAt w nv [n0, n1]) (hm : Hid ((filtI n0 n1).getD Z12 = m ∧ (filtI n0 n1).isSome = ok)) :
    Calls Tryz.prog 77 #[.agg #[.int .u8 102, nv, .string b]] w fun e w' => e = .returned (.tuple #[mtv m, .bool ok]) ∧ Below w.heap.size w w' := by
  have hcon : ∀ w, Calls Tryz.prog 111 #[.int .i64 n0, .int .i64 n1] w fun e w' => e = .returned (.tuple #[mtv m, .bool ok]) ∧ Below w.heap.size w w' := fun w => by
    rw [← hm.out.1, ← hm.out.2]; exact filter_any n0 n1 w
  obtain ⟨k, hk⟩ : ∃ k : Int, k = 102 := ⟨_, rfl⟩
  rw [← hk]
  obtain ⟨g, cap, rfl, hcap, hcm, hlt, hc⟩ := hn
  have c0 := hc 0 n0 rfl
  have c1 := hc 1 n1 rfl
  have hcap2 : 2 ≤ cap := hcap
  clear hc hcap
  obtain ⟨W0, hW0, hC, hR, hB0, hpl, hgl, hrl, hgr, ht2⟩ : ∃ W, W = (w.alloc (.cells #[.int .u8 k, .slice (some ⟨g, 0, none⟩) 2 cap, .string b] 90)).alloc (.cells #[.int .i64 0, .int .i64 0, .int .i64 0, .int .i64 0, .int .i64 0, .int .i64 0, .int .i64 0, .int .i64 0, .int .i64 0, .int .i64 0, .int .i64 0, .int .i64 0] 92) ∧ NP2 w.heap.size g cap k n0 n1 W ∧ Blk W (w.heap.size + 1) (mtc ⟨zK, zK, zK, zK⟩) 92 ∧ Below w.heap.size w W ∧ w.heap.size < W.heap.size ∧ g < W.heap.size ∧ w.heap.size + 1 < W.heap.size ∧ g ≠ w.heap.size + 1 ∧ W.cell? ⟨w.heap.size, 2, none⟩ = some (.string b) := by
    have hb : Below w.heap.size w ((w.alloc (.cells #[.int .u8 k, .slice (some ⟨g, 0, none⟩) 2 cap, .string b] 90)).alloc (.cells #[.int .i64 0, .int .i64 0, .int .i64 0, .int .i64 0, .int .i64 0, .int .i64 0, .int .i64 0, .int .i64 0, .int .i64 0, .int .i64 0, .int .i64 0, .int .i64 0] 92)) := by exact below_
    refine ⟨_, rfl, ⟨?_, ?_, (hb.cell (p := ⟨_, _, _⟩) hlt).trans c0, (hb.cell (p := ⟨_, _, _⟩) hlt).trans c1⟩, ?_, hb, by simp; omega, by simp; omega, by simp, by omega, ?_⟩
    · exact (((Below.refl _ _).alloc (Nat.le_refl _) _).cell (p := ⟨_, _, _⟩) (by simp)).trans (World.cell?_alloc_at _ _ _ _ rfl)
    · exact (((Below.refl _ _).alloc (Nat.le_refl _) _).cell (p := ⟨_, _, _⟩) (by simp)).trans (World.cell?_alloc_at _ _ _ _ rfl)
    · have := heap_alloc_last (w.alloc (.cells #[.int .u8 k, .slice (some ⟨g, 0, none⟩) 2 cap, .string b] 90)) (.cells (mtc ⟨zK, zK, zK, zK⟩) 92)
      rwa [World.size_alloc] at this
    · exact (((Below.refl _ _).alloc (Nat.le_refl _) _).cell (p := ⟨_, _, _⟩) (by simp)).trans (World.cell?_alloc_at _ _ _ _ rfl)
  obtain ⟨p0, p1, d0, d1⟩ := hC
  have hC : NP2 w.heap.size g cap k n0 n1 W0 := ⟨p0, p1, d0, d1⟩
  have hpr : w.heap.size ≠ w.heap.size + 1 := by omega
  clear c0 c1
  have HK := Lib.hid hk
  have k1 : (k == 114) = false := by rw [hk]; rfl
  have k2 : (k == 119) = false := by rw [hk]; rfl
  have k3 : (k == 102) = true := by rw [hk]; rfl
  have k4 : (k == 97) = false := by rw [hk]; rfl
  clear hk
  go_enter Tryz.func77, Tryz.ntmps77
  go_upto_region 7 with fail
  rw [← hW0]
  clear hW0
  go_region_held3 (fun w' => w'.cell? ⟨w.heap.size, 0, none⟩ = some (.int .u8 k) ∧ w'.cell? ⟨w.heap.size, 1, none⟩ = some (.slice (some ⟨g, 0, none⟩) 2 cap) ∧ w'.cell? ⟨g, 0, none⟩ = some (.int .i64 n0) ∧ w'.cell? ⟨g, 1, none⟩ = some (.int .i64 n1)) ((first | (refine hC.of hpl hgl ?_; with_reducible first | assumption | exact Below.drew (by assumption) | exact Below.refl _ _ | exact Below.drew (Below.refl _ _)) | (exact NP2.after (hC.of hpl hgl (by with_reducible assumption)) hpr hgr _ _ _ _ _ _ _ _ _ _ _ _))) (first | (go_at_call 111; (with_reducible refine (hcon _).mono ?_); rintro e w1 ⟨rfl, hb⟩; have hB : Below W0.heap.size W0 w1 := bstep (by (repeat' (first | (with_reducible exact Below.refl _ _) | (with_reducible assumption) | (with_reducible refine Below.setCell ?_ (by first | omega | (simp; done) | (simp; omega)) _) | (with_reducible refine Below.alloc ?_ (by first | omega | (simp; done) | (simp; omega)) _) | (with_reducible refine below_drewN ?_ _) | (with_reducible refine Below.drew ?_)))) hb side_; have hMr := (hB.block _ hrl).trans hR; obtain ⟨ho1, ho2⟩ := mat_out hMr; have k0 := ho1 0 (by decide); have k1 := ho1 1 (by decide); have k2 := ho1 2 (by decide); have k3 := ho1 3 (by decide); have k4 := ho1 4 (by decide); have k5 := ho1 5 (by decide); have k6 := ho1 6 (by decide); have k7 := ho1 7 (by decide); have k8 := ho1 8 (by decide); have k9 := ho1 9 (by decide); have k10 := ho1 10 (by decide); have k11 := ho1 11 (by decide); clear ho1 hb hMr))
  have hBw : Below w.heap.size w w1 := bstep hB0 hB hB0.size
  (try go_wp2)
  exact bodyPost_ret (v := .tuple #[mtv m, .bool ok]) (by simp [results, Tryz.results77, mtv, go_sem, *]) rfl ⟨rfl, by exact below_⟩
set_option maxRecDepth 100000 in
set_option maxHeartbeats 8000000 in
theorem mat_a (nv : Value) (b : ByteArray) (n0 n1 : Int) (f : Fr) (w : World) (hn : NumsAt w nv [n0, n1]) (h1 : 1 ≤ n1) (h2 : n1 ≤ 100) (h3 : 0 ≤ n0) (h4 : n0 ≤ n1) (hZ : GZ w) (hf : Hid (shareF n0 n1 = f)) :
    Calls Tryz.prog 77 #[.agg #[.int .u8 97, nv, .string b]] w fun e w' => e = .returned (.tuple #[mtv (diagM f f), .bool true]) ∧ Below w.heap.size w w' := by
  have hNW := hn
  obtain ⟨k, hk⟩ : ∃ k : Int, k = 97 := ⟨_, rfl⟩
  rw [← hk]
  obtain ⟨g, cap, rfl, hcap, hcm, hlt, hc⟩ := hn
  have c0 := hc 0 n0 rfl
  have c1 := hc 1 n1 rfl
  have hcap2 : 2 ≤ cap := hcap
  clear hc hcap
  obtain ⟨W0, hW0, hC, hR, hB0, hpl, hgl, hrl, hgr, ht2⟩ : ∃ W, W = (w.alloc (.cells #[.int .u8 k, .slice (some ⟨g, 0, none⟩) 2 cap, .string b] 90)).alloc (.cells #[.int .i64 0, .int .i64 0, .int .i64 0, .int .i64 0, .int .i64 0, .int .i64 0, .int .i64 0, .int .i64 0, .int .i64 0, .int .i64 0, .int .i64 0, .int .i64 0] 92) ∧ NP2 w.heap.size g cap k n0 n1 W ∧ Blk W (w.heap.size + 1) (mtc ⟨zK, zK, zK, zK⟩) 92 ∧ Below w.heap.size w W ∧ w.heap.size < W.heap.size ∧ g < W.heap.size ∧ w.heap.size + 1 < W.heap.size ∧ g ≠ w.heap.size + 1 ∧ W.cell? ⟨w.heap.size, 2, none⟩ = some (.string b) := by
    have hb : Below w.heap.size w ((w.alloc (.cells #[.int .u8 k, .slice (some ⟨g, 0, none⟩) 2 cap, .string b] 90)).alloc (.cells #[.int .i64 0, .int .i64 0, .int .i64 0, .int .i64 0, .int .i64 0, .int .i64 0, .int .i64 0, .int .i64 0, .int .i64 0, .int .i64 0, .int .i64 0, .int .i64 0] 92)) := by exact below_
    refine ⟨_, rfl, ⟨?_, ?_, (hb.cell (p := ⟨_, _, _⟩) hlt).trans c0, (hb.cell (p := ⟨_, _, _⟩) hlt).trans c1⟩, ?_, hb, by simp; omega, by simp; omega, by simp, by omega, ?_⟩
    · exact (((Below.refl _ _).alloc (Nat.le_refl _) _).cell (p := ⟨_, _, _⟩) (by simp)).trans (World.cell?_alloc_at _ _ _ _ rfl)
    · exact (((Below.refl _ _).alloc (Nat.le_refl _) _).cell (p := ⟨_, _, _⟩) (by simp)).trans (World.cell?_alloc_at _ _ _ _ rfl)
    · have := heap_alloc_last (w.alloc (.cells #[.int .u8 k, .slice (some ⟨g, 0, none⟩) 2 cap, .string b] 90)) (.cells (mtc ⟨zK, zK, zK, zK⟩) 92)
      rwa [World.size_alloc] at this
    · exact (((Below.refl _ _).alloc (Nat.le_refl _) _).cell (p := ⟨_, _, _⟩) (by simp)).trans (World.cell?_alloc_at _ _ _ _ rfl)
  obtain ⟨p0, p1, d0, d1⟩ := hC
  have hC : NP2 w.heap.size g cap k n0 n1 W0 := ⟨p0, p1, d0, d1⟩
  have hpr : w.heap.size ≠ w.heap.size + 1 := by omega
  clear c0 c1
  have HK := Lib.hid hk
  have k1 : (k == 114) = false := by rw [hk]; rfl
  have k2 : (k == 119) = false := by rw [hk]; rfl
  have k3 : (k == 102) = false := by rw [hk]; rfl
  have k4 : (k == 97) = true := by rw [hk]; rfl
  clear hk
  have hNum : NumsAt W0 (.slice (some ⟨g, 0, none⟩) 2 cap) [n0, n1] := hNW.below hB0
  clear hNW
  have hcon : ∀ w', Below W0.heap.size W0 w' → Calls Tryz.prog 112 #[.agg #[.int .u8 k, .slice (some ⟨g, 0, none⟩) 2 cap, .string b]] w' fun e w'' => e = .returned (frv f) ∧ Below w'.heap.size w' w'' := fun w' hb => by
    rw [← hf.out]; exact share_any k (.slice (some ⟨g, 0, none⟩) 2 cap) b n0 n1 w' (hNum.below hb) h1 h2 h3 h4
  have hz0 : 0 < w.heap.size := by have := hZ.lts; omega
  have hz1 : 0 ≠ w.heap.size + 1 := by omega
  have hz2 : 0 < W0.heap.size := by omega
  have hZ0 := (hZ.below hB0).val
  have hA : NA w.heap.size g cap k b W0 := ⟨⟨p0, p1, ht2⟩, hZ0.1, hZ0.2.1, hZ0.2.2⟩
  clear hC hZ0
  go_enter Tryz.func77, Tryz.ntmps77
  go_upto_region 9 with fail
  rw [← hW0]
  clear hW0
  go_region_held3 (fun w' => (w'.cell? ⟨w.heap.size, 0, none⟩ = some (.int .u8 k) ∧ w'.cell? ⟨w.heap.size, 1, none⟩ = some (.slice (some ⟨g, 0, none⟩) 2 cap) ∧ w'.cell? ⟨w.heap.size, 2, none⟩ = some (.string b)) ∧ (w'.cell? ⟨0, 0, none⟩ = some (.int .i64 0) ∧ w'.cell? ⟨0, 1, none⟩ = some (.int .i64 0) ∧ w'.cell? ⟨0, 2, none⟩ = some (.int .i64 1))) ((first | (refine hA.of hpl hz2 ?_; with_reducible first | assumption | exact Below.drew (by assumption) | exact Below.refl _ _ | exact Below.drew (Below.refl _ _)) | (exact NA.after (hA.of hpl hz2 (by with_reducible assumption)) hpr hz1 _ _ _ _ _ _ _ _ _ _ _ _))) (first | (go_at_call 112; (with_reducible refine (hcon _ (by (repeat' (first | (with_reducible exact Below.refl _ _) | (with_reducible assumption) | (with_reducible refine Below.setCell ?_ (by first | omega | (simp; done) | (simp; omega)) _) | (with_reducible refine Below.alloc ?_ (by first | omega | (simp; done) | (simp; omega)) _) | (with_reducible refine below_drewN ?_ _) | (with_reducible refine Below.drew ?_))))).mono ?_); rintro e w1 ⟨rfl, hb⟩; have hB : Below W0.heap.size W0 w1 := bstep (by (repeat' (first | (with_reducible exact Below.refl _ _) | (with_reducible assumption) | (with_reducible refine Below.setCell ?_ (by first | omega | (simp; done) | (simp; omega)) _) | (with_reducible refine Below.alloc ?_ (by first | omega | (simp; done) | (simp; omega)) _) | (with_reducible refine below_drewN ?_ _) | (with_reducible refine Below.drew ?_)))) hb side_; have hl := hB.size; have hMr := (hB.block _ hrl).trans hR; obtain ⟨ho1, ho2⟩ := mat_out hMr; have k0 := ho1 0 (by decide); have k1 := ho1 1 (by decide); have k2 := ho1 2 (by decide); have k3 := ho1 3 (by decide); have k4 := ho1 4 (by decide); have k5 := ho1 5 (by decide); have k6 := ho1 6 (by decide); have k7 := ho1 7 (by decide); have k8 := ho1 8 (by decide); have k9 := ho1 9 (by decide); have k10 := ho1 10 (by decide); have k11 := ho1 11 (by decide); clear ho1 hb hMr))
  all_goals (have hBw := bstep hB0 (by with_reducible assumption) hB0.size)
  all_goals (try go_wp2)
  all_goals exact bodyPost_ret (v := .tuple #[mtv (diagM f f), .bool true]) (by simp [results, Tryz.results77, mtv, diagM, go_sem, *]) rfl ⟨rfl, by exact below_⟩
set_option maxHeartbeats 4000000 in
theorem mat_d (A : Option Addr) (len cap : Nat) (b : ByteArray) (w : World) :
    Calls Tryz.prog 77 #[.agg #[.int .u8 100, .slice A len cap, .string b]] w fun e w' => e = .returned (mtb none) ∧ Below w.heap.size w w' := by
  go_enter Tryz.func77, Tryz.ntmps77
  go_wp2
  exact bodyPost_ret (v := mtb none) (by simp [results, Tryz.results77, go_sem, *]) rfl ⟨rfl, by exact below_⟩
theorem mat_any (x : Pc) (nv : Value) (b : ByteArray) (w : World) (ho : pcOk x.k x.ns = true) (hn : NumsAt w nv x.ns) (hO : GO w) (hZ : GZ w) (hT : GT w) :
    Calls Tryz.prog 77 #[.agg #[.int .u8 x.k.toNat, nv, .string b]] w fun e w' => e = .returned (mtb (pcMat x)) ∧ Below w.heap.size w w' := by
  obtain ⟨k, ns⟩ := x
  match ns, ho, hn with
  | [], ho, hn => cases ho
  | [_], ho, hn => cases ho
  | [p, q], ho, hn =>
    by_cases h1 : k = 114
    · subst h1
      exact mat_r nv b p q _ _ w hn (Lib.hid ⟨rfl, rfl⟩)
    by_cases h2 : k = 102
    · subst h2
      exact mat_f nv b p q _ _ w hn (Lib.hid ⟨rfl, rfl⟩)
    have hz : pcOk k [p, q] = (if k = 97 ∨ k = 100 then inB q 1 100 && inB p 0 q else false) := by
      show (if k = 114 ∨ k = 102 then dirOk p q else if k = 97 ∨ k = 100 then inB q 1 100 && inB p 0 q else false) = _
      rw [if_neg (fun hh => hh.elim h1 h2)]
    have ho2 : pcOk k [p, q] = true := ho
    rw [hz] at ho2
    by_cases h3 : k = 97
    · subst h3
      rw [if_pos (.inl rfl)] at ho2
      simp only [Bool.and_eq_true, inB_iff] at ho2
      exact mat_a nv b p q _ w hn ho2.1.1 ho2.1.2 ho2.2.1 ho2.2.2 hZ rfl
    by_cases h4 : k = 100
    · subst h4
      obtain ⟨g, cap, rfl, -⟩ := hn
      exact mat_d _ _ _ b w
    · rw [if_neg (fun hh => hh.elim h3 h4)] at ho2
      cases ho2
  | [p, q, n], ho, hn =>
    have ho2 : (if k = 119 then dirOk p q && inB n 0 3 else false) = true := ho
    by_cases h1 : k = 119
    · subst h1
      exact mat_w nv b p q n _ _ w hn hO hZ hT (Lib.hid ⟨rfl, rfl⟩)
    · rw [if_neg h1] at ho2; cases ho2
  | _ :: _ :: _ :: _ :: _, ho, hn => cases ho
end
section
open Go.RowKit
attribute [local go_sem ↓] Go.wp_at_zero Go.wp_at_succ
set_option maxHeartbeats 4000000 in
theorem spart_any (k : Int) (nv : Value) (n0 n1 : Int) (w : World) (hn : NumsAt w nv [n0, n1]) (h1 : 1 ≤ n1) (h2 : n1 ≤ 100) (h3 : 0 ≤ n0) (h4 : n0 ≤ n1) :
    Calls Tryz.prog 130 #[.agg #[.int .u8 k, nv]] w fun e w' => e = .returned (frv (shareF n0 n1)) ∧ Below w.heap.size w w' := by
  obtain ⟨g, cap, rfl, hcap, hcm, hlt, hc⟩ := hn
  have c0 := hc 0 n0 rfl
  have c1 := hc 1 n1 rfl
  have hcap2 : 2 ≤ cap := hcap
  clear hc hcap
  obtain ⟨W0, hW0, hC, hR, hB0, hpl, hgl⟩ : ∃ W, W = (w.alloc (.cells #[.int .u8 k, .slice (some ⟨g, 0, none⟩) 2 cap] 112)).alloc (.cells #[.int .i64 0, .int .i64 0, .int .i64 0] 24) ∧ NP2 w.heap.size g cap k n0 n1 W ∧ Blk W (w.heap.size + 1) (frc ⟨0, 0, 0⟩) 24 ∧ Below w.heap.size w W ∧ w.heap.size < W.heap.size ∧ g < W.heap.size := by
    have hb : Below w.heap.size w ((w.alloc (.cells #[.int .u8 k, .slice (some ⟨g, 0, none⟩) 2 cap] 112)).alloc (.cells #[.int .i64 0, .int .i64 0, .int .i64 0] 24)) := by exact below_
    refine ⟨_, rfl, ⟨?_, ?_, (hb.cell (p := ⟨_, _, _⟩) hlt).trans c0, (hb.cell (p := ⟨_, _, _⟩) hlt).trans c1⟩, ?_, hb, by simp; omega, by simp; omega⟩
    · exact (((Below.refl _ _).alloc (Nat.le_refl _) _).cell (p := ⟨_, _, _⟩) (by simp)).trans (World.cell?_alloc_at _ _ _ _ rfl)
    · exact (((Below.refl _ _).alloc (Nat.le_refl _) _).cell (p := ⟨_, _, _⟩) (by simp)).trans (World.cell?_alloc_at _ _ _ _ rfl)
    · have := heap_alloc_last (w.alloc (.cells #[.int .u8 k, .slice (some ⟨g, 0, none⟩) 2 cap] 112)) (.cells (frc ⟨0, 0, 0⟩) 24)
      rwa [World.size_alloc] at this
  obtain ⟨p0, p1, d0, d1⟩ := hC
  have hC : NP2 w.heap.size g cap k n0 n1 W0 := ⟨p0, p1, d0, d1⟩
  clear c0 c1
  go_enter Tryz.func130, Tryz.ntmps130
  go_upto_region 1 with fail
  rw [← hW0]
  clear hW0
  go_cut [3, 4] from 5 to 16 (fun s3 _ wx => ∃ b3, s3 = .pointer (some ⟨b3, 0, none⟩) ∧ (wx.cell? ⟨b3, 0, none⟩ = some (.int .i64 (shareF n0 n1).re) ∧ wx.cell? ⟨b3, 1, none⟩ = some (.int .i64 (shareF n0 n1).im) ∧ wx.cell? ⟨b3, 2, none⟩ = some (.int .i64 (shareF n0 n1).den)) ∧ Below W0.heap.size W0 wx)
  case first =>
    go_region_held3 (fun w' => w'.cell? ⟨w.heap.size, 0, none⟩ = some (.int .u8 k) ∧ w'.cell? ⟨w.heap.size, 1, none⟩ = some (.slice (some ⟨g, 0, none⟩) 2 cap) ∧ w'.cell? ⟨g, 0, none⟩ = some (.int .i64 n0) ∧ w'.cell? ⟨g, 1, none⟩ = some (.int .i64 n1)) ((refine hC.of hpl hgl ?_; (repeat' (first | (with_reducible exact Below.refl _ _) | (with_reducible assumption) | (with_reducible refine Below.setCell ?_ (by first | omega | (simp; done) | (simp; omega)) _) | (with_reducible refine Below.alloc ?_ (by first | omega | (simp; done) | (simp; omega)) _) | (with_reducible refine below_drewN ?_ _) | (with_reducible refine Below.drew ?_))))) (first | (go_at_call 122; (with_reducible refine (smake_low n0 0 n1 _ (by rw [inB_iff]; omega) (by rw [inB_iff]; omega) (by rw [inB_iff]; omega)).mono ?_); rintro e w1 ⟨rfl, hb⟩; obtain ⟨hc, hf⟩ := bf hb (W0.heap.size) side_; have hs := hb.size; (try simp only [World.size_alloc, World.size_setCell, World.size_drew, World.heap_drewN] at hs); have hl : W0.heap.size ≤ w1.heap.size := (by omega); obtain ⟨B, hBe, hBl, hc2, hf2⟩ := bfA hb; (try simp only [World.size_alloc, World.size_setCell, World.size_drew, World.heap_drewN] at hBe); have hB : Below W0.heap.size W0 w1 := bstep (by exact below_) hb side_; clear hs hb))
    all_goals (go_wp2; go_meet; exact ⟨_, rfl, (by refine ⟨?_, ?_, ?_⟩ <;> (first | (with_reducible exact World.cell?_alloc_at _ _ _ _ rfl) | (simp [shareF, go_sem, *]; done))), by exact below_⟩)
  case rest =>
    obtain ⟨b3, rfl, ⟨f0, f1, f2⟩, hB⟩ := hcut
    have hR2 := (hB.block _ (blk_lt hR)).trans hR
    obtain ⟨r0, r1, r2⟩ := blk_fr0 hR2
    have g0 := blk_free0 hR2 0
    have g1 := blk_free0 hR2 1
    have g2 := blk_free0 hR2 2
    have hBw := bstep hB0 hB hB0.size
    go_wp2
    exact bodyPost_ret (v := frv (shareF n0 n1)) (by simp [results, Tryz.results130, go_sem, *]) rfl ⟨rfl, by exact below_⟩
set_option maxRecDepth 100000 in
set_option maxHeartbeats 8000000 in
theorem smat_r (nv : Value) (n0 n1 : Int) (m : Mt) (ok : Bool) (w : World) (hn : NumsAt w nv [n0, n1]) (hm : Hid ((rotI n0 n1).getD Z12 = m ∧ (rotI n0 n1).isSome = ok)) :
    Calls Tryz.prog 105 #[.agg #[.int .u8 114, nv]] w fun e w' => e = .returned (.tuple #[mtv m, .bool ok]) ∧ Below w.heap.size w w' := by
  have hcon : ∀ w, Calls Tryz.prog 127 #[.int .i64 n0, .int .i64 n1] w fun e w' => e = .returned (.tuple #[mtv m, .bool ok]) ∧ Below w.heap.size w w' := fun w => by
    rw [← hm.out.1, ← hm.out.2]; exact srot_any n0 n1 w
  obtain ⟨k, hk⟩ : ∃ k : Int, k = 114 := ⟨_, rfl⟩
  rw [← hk]
  obtain ⟨g, cap, rfl, hcap, hcm, hlt, hc⟩ := hn
  have c0 := hc 0 n0 rfl
  have c1 := hc 1 n1 rfl
  have hcap2 : 2 ≤ cap := hcap
  clear hc hcap
  obtain ⟨W0, hW0, hC, hR, hB0, hpl, hgl, hrl, hgr⟩ : ∃ W, W = (w.alloc (.cells #[.int .u8 k, .slice (some ⟨g, 0, none⟩) 2 cap] 112)).alloc (.cells #[.int .i64 0, .int .i64 0, .int .i64 0, .int .i64 0, .int .i64 0, .int .i64 0, .int .i64 0, .int .i64 0, .int .i64 0, .int .i64 0, .int .i64 0, .int .i64 0] 92) ∧ NP2 w.heap.size g cap k n0 n1 W ∧ Blk W (w.heap.size + 1) (mtc ⟨zK, zK, zK, zK⟩) 92 ∧ Below w.heap.size w W ∧ w.heap.size < W.heap.size ∧ g < W.heap.size ∧ w.heap.size + 1 < W.heap.size ∧ g ≠ w.heap.size + 1 := by
    have hb : Below w.heap.size w ((w.alloc (.cells #[.int .u8 k, .slice (some ⟨g, 0, none⟩) 2 cap] 112)).alloc (.cells #[.int .i64 0, .int .i64 0, .int .i64 0, .int .i64 0, .int .i64 0, .int .i64 0, .int .i64 0, .int .i64 0, .int .i64 0, .int .i64 0, .int .i64 0, .int .i64 0] 92)) := by exact below_
    refine ⟨_, rfl, ⟨?_, ?_, (hb.cell (p := ⟨_, _, _⟩) hlt).trans c0, (hb.cell (p := ⟨_, _, _⟩) hlt).trans c1⟩, ?_, hb, by simp; omega, by simp; omega, by simp, by omega⟩
    · exact (((Below.refl _ _).alloc (Nat.le_refl _) _).cell (p := ⟨_, _, _⟩) (by simp)).trans (World.cell?_alloc_at _ _ _ _ rfl)
    · exact (((Below.refl _ _).alloc (Nat.le_refl _) _).cell (p := ⟨_, _, _⟩) (by simp)).trans (World.cell?_alloc_at _ _ _ _ rfl)
    · have := heap_alloc_last (w.alloc (.cells #[.int .u8 k, .slice (some ⟨g, 0, none⟩) 2 cap] 112)) (.cells (mtc ⟨zK, zK, zK, zK⟩) 92)
      rwa [World.size_alloc] at this
  obtain ⟨p0, p1, d0, d1⟩ := hC
  have hC : NP2 w.heap.size g cap k n0 n1 W0 := ⟨p0, p1, d0, d1⟩
  have hpr : w.heap.size ≠ w.heap.size + 1 := by omega
  clear c0 c1
  have HK := Lib.hid hk
  have k1 : (k == 114) = true := by rw [hk]; rfl
  have k2 : (k == 119) = false := by rw [hk]; rfl
  have k3 : (k == 102) = false := by rw [hk]; rfl
  have k4 : (k == 97) = false := by rw [hk]; rfl
  clear hk
  go_enter Tryz.func105, Tryz.ntmps105
  go_upto_region 3 with fail
  rw [← hW0]
  clear hW0
  go_region_held3 (fun w' => w'.cell? ⟨w.heap.size, 0, none⟩ = some (.int .u8 k) ∧ w'.cell? ⟨w.heap.size, 1, none⟩ = some (.slice (some ⟨g, 0, none⟩) 2 cap) ∧ w'.cell? ⟨g, 0, none⟩ = some (.int .i64 n0) ∧ w'.cell? ⟨g, 1, none⟩ = some (.int .i64 n1)) ((first | (refine hC.of hpl hgl ?_; with_reducible first | assumption | exact Below.drew (by assumption) | exact Below.refl _ _ | exact Below.drew (Below.refl _ _)) | (exact NP2.after (hC.of hpl hgl (by with_reducible assumption)) hpr hgr _ _ _ _ _ _ _ _ _ _ _ _))) (first | (go_at_call 127; (with_reducible refine (hcon _).mono ?_); rintro e w1 ⟨rfl, hb⟩; have hB : Below W0.heap.size W0 w1 := bstep (by (repeat' (first | (with_reducible exact Below.refl _ _) | (with_reducible assumption) | (with_reducible refine Below.setCell ?_ (by first | omega | (simp; done) | (simp; omega)) _) | (with_reducible refine Below.alloc ?_ (by first | omega | (simp; done) | (simp; omega)) _) | (with_reducible refine below_drewN ?_ _) | (with_reducible refine Below.drew ?_)))) hb side_; have hMr := (hB.block _ hrl).trans hR; obtain ⟨ho1, ho2⟩ := mat_out hMr; have k0 := ho1 0 (by decide); have k1 := ho1 1 (by decide); have k2 := ho1 2 (by decide); have k3 := ho1 3 (by decide); have k4 := ho1 4 (by decide); have k5 := ho1 5 (by decide); have k6 := ho1 6 (by decide); have k7 := ho1 7 (by decide); have k8 := ho1 8 (by decide); have k9 := ho1 9 (by decide); have k10 := ho1 10 (by decide); have k11 := ho1 11 (by decide); clear ho1 hb hMr))
  have hBw : Below w.heap.size w w1 := bstep hB0 hB hB0.size
  (try go_wp2)
  exact bodyPost_ret (v := .tuple #[mtv m, .bool ok]) (by simp [results, Tryz.results105, mtv, go_sem, *]) rfl ⟨rfl, by exact below_⟩
set_option maxRecDepth 100000 in
set_option maxHeartbeats 8000000 in
theorem smat_w (nv : Value) (n0 n1 n2 : Int) (m : Mt) (ok : Bool) (w : World) (hn : NumsAt w nv [n0, n1, n2]) (hm : Hid ((plateI n0 n1 n2).getD Z12 = m ∧ (plateI n0 n1 n2).isSome = ok)) :
    Calls Tryz.prog 105 #[.agg #[.int .u8 119, nv]] w fun e w' => e = .returned (.tuple #[mtv m, .bool ok]) ∧ Below w.heap.size w w' := by
  have hcon : ∀ w, Calls Tryz.prog 128 #[.int .i64 n0, .int .i64 n1, .int .i64 n2] w fun e w' => e = .returned (.tuple #[mtv m, .bool ok]) ∧ Below w.heap.size w w' := fun w => by
    rw [← hm.out.1, ← hm.out.2]; exact splate_any n0 n1 n2 w
  obtain ⟨k, hk⟩ : ∃ k : Int, k = 119 := ⟨_, rfl⟩
  rw [← hk]
  obtain ⟨g, cap, rfl, hcap, hcm, hlt, hc⟩ := hn
  have c0 := hc 0 n0 rfl
  have c1 := hc 1 n1 rfl
  have c2 := hc 2 n2 rfl
  have hcap2 : 3 ≤ cap := hcap
  clear hc hcap
  obtain ⟨W0, hW0, hC, hR, hB0, hpl, hgl, hrl, hgr⟩ : ∃ W, W = (w.alloc (.cells #[.int .u8 k, .slice (some ⟨g, 0, none⟩) 3 cap] 112)).alloc (.cells #[.int .i64 0, .int .i64 0, .int .i64 0, .int .i64 0, .int .i64 0, .int .i64 0, .int .i64 0, .int .i64 0, .int .i64 0, .int .i64 0, .int .i64 0, .int .i64 0] 92) ∧ NP3 w.heap.size g cap k n0 n1 n2 W ∧ Blk W (w.heap.size + 1) (mtc ⟨zK, zK, zK, zK⟩) 92 ∧ Below w.heap.size w W ∧ w.heap.size < W.heap.size ∧ g < W.heap.size ∧ w.heap.size + 1 < W.heap.size ∧ g ≠ w.heap.size + 1 := by
    have hb : Below w.heap.size w ((w.alloc (.cells #[.int .u8 k, .slice (some ⟨g, 0, none⟩) 3 cap] 112)).alloc (.cells #[.int .i64 0, .int .i64 0, .int .i64 0, .int .i64 0, .int .i64 0, .int .i64 0, .int .i64 0, .int .i64 0, .int .i64 0, .int .i64 0, .int .i64 0, .int .i64 0] 92)) := by exact below_
    refine ⟨_, rfl, ⟨?_, ?_, (hb.cell (p := ⟨_, _, _⟩) hlt).trans c0, (hb.cell (p := ⟨_, _, _⟩) hlt).trans c1, (hb.cell (p := ⟨_, _, _⟩) hlt).trans c2⟩, ?_, hb, by simp; omega, by simp; omega, by simp, by omega⟩
    · exact (((Below.refl _ _).alloc (Nat.le_refl _) _).cell (p := ⟨_, _, _⟩) (by simp)).trans (World.cell?_alloc_at _ _ _ _ rfl)
    · exact (((Below.refl _ _).alloc (Nat.le_refl _) _).cell (p := ⟨_, _, _⟩) (by simp)).trans (World.cell?_alloc_at _ _ _ _ rfl)
    · have := heap_alloc_last (w.alloc (.cells #[.int .u8 k, .slice (some ⟨g, 0, none⟩) 3 cap] 112)) (.cells (mtc ⟨zK, zK, zK, zK⟩) 92)
      rwa [World.size_alloc] at this
  obtain ⟨p0, p1, d0, d1, d2⟩ := hC
  have hC : NP3 w.heap.size g cap k n0 n1 n2 W0 := ⟨p0, p1, d0, d1, d2⟩
  have hpr : w.heap.size ≠ w.heap.size + 1 := by omega
  clear c0 c1 c2
  have HK := Lib.hid hk
  have k1 : (k == 114) = false := by rw [hk]; rfl
  have k2 : (k == 119) = true := by rw [hk]; rfl
  have k3 : (k == 102) = false := by rw [hk]; rfl
  have k4 : (k == 97) = false := by rw [hk]; rfl
  clear hk
  go_enter Tryz.func105, Tryz.ntmps105
  go_upto_region 5 with fail
  rw [← hW0]
  clear hW0
  go_region_held3 (fun w' => w'.cell? ⟨w.heap.size, 0, none⟩ = some (.int .u8 k) ∧ w'.cell? ⟨w.heap.size, 1, none⟩ = some (.slice (some ⟨g, 0, none⟩) 3 cap) ∧ w'.cell? ⟨g, 0, none⟩ = some (.int .i64 n0) ∧ w'.cell? ⟨g, 1, none⟩ = some (.int .i64 n1) ∧ w'.cell? ⟨g, 2, none⟩ = some (.int .i64 n2)) ((first | (refine hC.of hpl hgl ?_; with_reducible first | assumption | exact Below.drew (by assumption) | exact Below.refl _ _ | exact Below.drew (Below.refl _ _)) | (exact NP3.after (hC.of hpl hgl (by with_reducible assumption)) hpr hgr _ _ _ _ _ _ _ _ _ _ _ _))) (first | (go_at_call 128; (with_reducible refine (hcon _).mono ?_); rintro e w1 ⟨rfl, hb⟩; have hB : Below W0.heap.size W0 w1 := bstep (by (repeat' (first | (with_reducible exact Below.refl _ _) | (with_reducible assumption) | (with_reducible refine Below.setCell ?_ (by first | omega | (simp; done) | (simp; omega)) _) | (with_reducible refine Below.alloc ?_ (by first | omega | (simp; done) | (simp; omega)) _) | (with_reducible refine below_drewN ?_ _) | (with_reducible refine Below.drew ?_)))) hb side_; have hMr := (hB.block _ hrl).trans hR; obtain ⟨ho1, ho2⟩ := mat_out hMr; have k0 := ho1 0 (by decide); have k1 := ho1 1 (by decide); have k2 := ho1 2 (by decide); have k3 := ho1 3 (by decide); have k4 := ho1 4 (by decide); have k5 := ho1 5 (by decide); have k6 := ho1 6 (by decide); have k7 := ho1 7 (by decide); have k8 := ho1 8 (by decide); have k9 := ho1 9 (by decide); have k10 := ho1 10 (by decide); have k11 := ho1 11 (by decide); clear ho1 hb hMr))
  have hBw : Below w.heap.size w w1 := bstep hB0 hB hB0.size
  (try go_wp2)
  exact bodyPost_ret (v := .tuple #[mtv m, .bool ok]) (by simp [results, Tryz.results105, mtv, go_sem, *]) rfl ⟨rfl, by exact below_⟩
set_option maxRecDepth 100000 in
set_option maxHeartbeats 8000000 in
theorem smat_f (nv : Value) (n0 n1 : Int) (m : Mt) (ok : Bool) (w : World) (hn : NumsAt w nv [n0, n1]) (hm : Hid ((filtI n0 n1).getD Z12 = m ∧ (filtI n0 n1).isSome = ok)) :
    Calls Tryz.prog 105 #[.agg #[.int .u8 102, nv]] w fun e w' => e = .returned (.tuple #[mtv m, .bool ok]) ∧ Below w.heap.size w w' := by
  have hcon : ∀ w, Calls Tryz.prog 129 #[.int .i64 n0, .int .i64 n1] w fun e w' => e = .returned (.tuple #[mtv m, .bool ok]) ∧ Below w.heap.size w w' := fun w => by
    rw [← hm.out.1, ← hm.out.2]; exact sfilter_any n0 n1 w
  obtain ⟨k, hk⟩ : ∃ k : Int, k = 102 := ⟨_, rfl⟩
  rw [← hk]
  obtain ⟨g, cap, rfl, hcap, hcm, hlt, hc⟩ := hn
  have c0 := hc 0 n0 rfl
  have c1 := hc 1 n1 rfl
  have hcap2 : 2 ≤ cap := hcap
  clear hc hcap
  obtain ⟨W0, hW0, hC, hR, hB0, hpl, hgl, hrl, hgr⟩ : ∃ W, W = (w.alloc (.cells #[.int .u8 k, .slice (some ⟨g, 0, none⟩) 2 cap] 112)).alloc (.cells #[.int .i64 0, .int .i64 0, .int .i64 0, .int .i64 0, .int .i64 0, .int .i64 0, .int .i64 0, .int .i64 0, .int .i64 0, .int .i64 0, .int .i64 0, .int .i64 0] 92) ∧ NP2 w.heap.size g cap k n0 n1 W ∧ Blk W (w.heap.size + 1) (mtc ⟨zK, zK, zK, zK⟩) 92 ∧ Below w.heap.size w W ∧ w.heap.size < W.heap.size ∧ g < W.heap.size ∧ w.heap.size + 1 < W.heap.size ∧ g ≠ w.heap.size + 1 := by
    have hb : Below w.heap.size w ((w.alloc (.cells #[.int .u8 k, .slice (some ⟨g, 0, none⟩) 2 cap] 112)).alloc (.cells #[.int .i64 0, .int .i64 0, .int .i64 0, .int .i64 0, .int .i64 0, .int .i64 0, .int .i64 0, .int .i64 0, .int .i64 0, .int .i64 0, .int .i64 0, .int .i64 0] 92)) := by exact below_
    refine ⟨_, rfl, ⟨?_, ?_, (hb.cell (p := ⟨_, _, _⟩) hlt).trans c0, (hb.cell (p := ⟨_, _, _⟩) hlt).trans c1⟩, ?_, hb, by simp; omega, by simp; omega, by simp, by omega⟩
    · exact (((Below.refl _ _).alloc (Nat.le_refl _) _).cell (p := ⟨_, _, _⟩) (by simp)).trans (World.cell?_alloc_at _ _ _ _ rfl)
    · exact (((Below.refl _ _).alloc (Nat.le_refl _) _).cell (p := ⟨_, _, _⟩) (by simp)).trans (World.cell?_alloc_at _ _ _ _ rfl)
    · have := heap_alloc_last (w.alloc (.cells #[.int .u8 k, .slice (some ⟨g, 0, none⟩) 2 cap] 112)) (.cells (mtc ⟨zK, zK, zK, zK⟩) 92)
      rwa [World.size_alloc] at this
  obtain ⟨p0, p1, d0, d1⟩ := hC
  have hC : NP2 w.heap.size g cap k n0 n1 W0 := ⟨p0, p1, d0, d1⟩
  have hpr : w.heap.size ≠ w.heap.size + 1 := by omega
  clear c0 c1
  have HK := Lib.hid hk
  have k1 : (k == 114) = false := by rw [hk]; rfl
  have k2 : (k == 119) = false := by rw [hk]; rfl
  have k3 : (k == 102) = true := by rw [hk]; rfl
  have k4 : (k == 97) = false := by rw [hk]; rfl
  clear hk
  go_enter Tryz.func105, Tryz.ntmps105
  go_upto_region 7 with fail
  rw [← hW0]
  clear hW0
  go_region_held3 (fun w' => w'.cell? ⟨w.heap.size, 0, none⟩ = some (.int .u8 k) ∧ w'.cell? ⟨w.heap.size, 1, none⟩ = some (.slice (some ⟨g, 0, none⟩) 2 cap) ∧ w'.cell? ⟨g, 0, none⟩ = some (.int .i64 n0) ∧ w'.cell? ⟨g, 1, none⟩ = some (.int .i64 n1)) ((first | (refine hC.of hpl hgl ?_; with_reducible first | assumption | exact Below.drew (by assumption) | exact Below.refl _ _ | exact Below.drew (Below.refl _ _)) | (exact NP2.after (hC.of hpl hgl (by with_reducible assumption)) hpr hgr _ _ _ _ _ _ _ _ _ _ _ _))) (first | (go_at_call 129; (with_reducible refine (hcon _).mono ?_); rintro e w1 ⟨rfl, hb⟩; have hB : Below W0.heap.size W0 w1 := bstep (by (repeat' (first | (with_reducible exact Below.refl _ _) | (with_reducible assumption) | (with_reducible refine Below.setCell ?_ (by first | omega | (simp; done) | (simp; omega)) _) | (with_reducible refine Below.alloc ?_ (by first | omega | (simp; done) | (simp; omega)) _) | (with_reducible refine below_drewN ?_ _) | (with_reducible refine Below.drew ?_)))) hb side_; have hMr := (hB.block _ hrl).trans hR; obtain ⟨ho1, ho2⟩ := mat_out hMr; have k0 := ho1 0 (by decide); have k1 := ho1 1 (by decide); have k2 := ho1 2 (by decide); have k3 := ho1 3 (by decide); have k4 := ho1 4 (by decide); have k5 := ho1 5 (by decide); have k6 := ho1 6 (by decide); have k7 := ho1 7 (by decide); have k8 := ho1 8 (by decide); have k9 := ho1 9 (by decide); have k10 := ho1 10 (by decide); have k11 := ho1 11 (by decide); clear ho1 hb hMr))
  have hBw : Below w.heap.size w w1 := bstep hB0 hB hB0.size
  (try go_wp2)
  exact bodyPost_ret (v := .tuple #[mtv m, .bool ok]) (by simp [results, Tryz.results105, mtv, go_sem, *]) rfl ⟨rfl, by exact below_⟩
set_option maxRecDepth 100000 in
set_option maxHeartbeats 8000000 in
theorem smat_a (nv : Value) (n0 n1 : Int) (f : Fr) (w : World) (hn : NumsAt w nv [n0, n1]) (h1 : 1 ≤ n1) (h2 : n1 ≤ 100) (h3 : 0 ≤ n0) (h4 : n0 ≤ n1) (hf : Hid (shareF n0 n1 = f)) :
    Calls Tryz.prog 105 #[.agg #[.int .u8 97, nv]] w fun e w' => e = .returned (.tuple #[mtv (diagM f f), .bool true]) ∧ Below w.heap.size w w' := by
  have hNW := hn
  obtain ⟨k, hk⟩ : ∃ k : Int, k = 97 := ⟨_, rfl⟩
  rw [← hk]
  obtain ⟨g, cap, rfl, hcap, hcm, hlt, hc⟩ := hn
  have c0 := hc 0 n0 rfl
  have c1 := hc 1 n1 rfl
  have hcap2 : 2 ≤ cap := hcap
  clear hc hcap
  obtain ⟨W0, hW0, hC, hR, hB0, hpl, hgl, hrl, hgr⟩ : ∃ W, W = (w.alloc (.cells #[.int .u8 k, .slice (some ⟨g, 0, none⟩) 2 cap] 112)).alloc (.cells #[.int .i64 0, .int .i64 0, .int .i64 0, .int .i64 0, .int .i64 0, .int .i64 0, .int .i64 0, .int .i64 0, .int .i64 0, .int .i64 0, .int .i64 0, .int .i64 0] 92) ∧ NP2 w.heap.size g cap k n0 n1 W ∧ Blk W (w.heap.size + 1) (mtc ⟨zK, zK, zK, zK⟩) 92 ∧ Below w.heap.size w W ∧ w.heap.size < W.heap.size ∧ g < W.heap.size ∧ w.heap.size + 1 < W.heap.size ∧ g ≠ w.heap.size + 1 := by
    have hb : Below w.heap.size w ((w.alloc (.cells #[.int .u8 k, .slice (some ⟨g, 0, none⟩) 2 cap] 112)).alloc (.cells #[.int .i64 0, .int .i64 0, .int .i64 0, .int .i64 0, .int .i64 0, .int .i64 0, .int .i64 0, .int .i64 0, .int .i64 0, .int .i64 0, .int .i64 0, .int .i64 0] 92)) := by exact below_
    refine ⟨_, rfl, ⟨?_, ?_, (hb.cell (p := ⟨_, _, _⟩) hlt).trans c0, (hb.cell (p := ⟨_, _, _⟩) hlt).trans c1⟩, ?_, hb, by simp; omega, by simp; omega, by simp, by omega⟩
    · exact (((Below.refl _ _).alloc (Nat.le_refl _) _).cell (p := ⟨_, _, _⟩) (by simp)).trans (World.cell?_alloc_at _ _ _ _ rfl)
    · exact (((Below.refl _ _).alloc (Nat.le_refl _) _).cell (p := ⟨_, _, _⟩) (by simp)).trans (World.cell?_alloc_at _ _ _ _ rfl)
    · have := heap_alloc_last (w.alloc (.cells #[.int .u8 k, .slice (some ⟨g, 0, none⟩) 2 cap] 112)) (.cells (mtc ⟨zK, zK, zK, zK⟩) 92)
      rwa [World.size_alloc] at this
  obtain ⟨p0, p1, d0, d1⟩ := hC
  have hC : NP2 w.heap.size g cap k n0 n1 W0 := ⟨p0, p1, d0, d1⟩
  have hpr : w.heap.size ≠ w.heap.size + 1 := by omega
  clear c0 c1
  have HK := Lib.hid hk
  have k1 : (k == 114) = false := by rw [hk]; rfl
  have k2 : (k == 119) = false := by rw [hk]; rfl
  have k3 : (k == 102) = false := by rw [hk]; rfl
  have k4 : (k == 97) = true := by rw [hk]; rfl
  clear hk
  have hNum : NumsAt W0 (.slice (some ⟨g, 0, none⟩) 2 cap) [n0, n1] := hNW.below hB0
  clear hNW
  have hcon : ∀ w', Below W0.heap.size W0 w' → Calls Tryz.prog 130 #[.agg #[.int .u8 k, .slice (some ⟨g, 0, none⟩) 2 cap]] w' fun e w'' => e = .returned (frv f) ∧ Below w'.heap.size w' w'' := fun w' hb => by
    rw [← hf.out]; exact spart_any k (.slice (some ⟨g, 0, none⟩) 2 cap) n0 n1 w' (hNum.below hb) h1 h2 h3 h4
  go_enter Tryz.func105, Tryz.ntmps105
  go_upto_region 9 with fail
  rw [← hW0]
  clear hW0
  go_wp2_with (first | (go_at_call 130; (with_reducible refine (hcon _ (Below.refl _ _)).mono ?_); rintro e w1 ⟨rfl, hb⟩; have hB := hb; have hl := hB.size; have hMr := (hB.block _ hrl).trans hR; obtain ⟨ho1, ho2⟩ := mat_out hMr; have kk0 := ho1 0 (by decide); have kk1 := ho1 1 (by decide); have kk2 := ho1 2 (by decide); have kk3 := ho1 3 (by decide); have kk4 := ho1 4 (by decide); have kk5 := ho1 5 (by decide); have kk6 := ho1 6 (by decide); have kk7 := ho1 7 (by decide); have kk8 := ho1 8 (by decide); have kk9 := ho1 9 (by decide); have kk10 := ho1 10 (by decide); have kk11 := ho1 11 (by decide); clear ho1 hb hMr) | (go_at_call 131; (with_reducible refine (sone_any f f _).mono ?_); rintro e w2 ⟨rfl, hb⟩; have hB : Below W0.heap.size W0 w2 := bstep (by (repeat' (first | (with_reducible exact Below.refl _ _) | (with_reducible assumption) | (with_reducible refine Below.setCell ?_ (by first | omega | (simp; done) | (simp; omega)) _) | (with_reducible refine Below.alloc ?_ (by first | omega | (simp; done) | (simp; omega)) _) | (with_reducible refine below_drewN ?_ _) | (with_reducible refine Below.drew ?_)))) hb side_; have hl := hB.size; have hMr := (hB.block _ hrl).trans hR; obtain ⟨ho1, ho2⟩ := mat_out hMr; have k0 := ho1 0 (by decide); have k1 := ho1 1 (by decide); have k2 := ho1 2 (by decide); have k3 := ho1 3 (by decide); have k4 := ho1 4 (by decide); have k5 := ho1 5 (by decide); have k6 := ho1 6 (by decide); have k7 := ho1 7 (by decide); have k8 := ho1 8 (by decide); have k9 := ho1 9 (by decide); have k10 := ho1 10 (by decide); have k11 := ho1 11 (by decide); clear ho1 hb hMr))
  have hBw := bstep hB0 (by with_reducible assumption) hB0.size
  (try go_wp2)
  exact bodyPost_ret (v := .tuple #[mtv (diagM f f), .bool true]) (by simp [results, Tryz.results105, mtv, diagM, go_sem, *]) rfl ⟨rfl, by exact below_⟩
set_option maxHeartbeats 4000000 in
theorem smat_d (A : Option Addr) (len cap : Nat) (w : World) :
    Calls Tryz.prog 105 #[.agg #[.int .u8 100, .slice A len cap]] w fun e w' => e = .returned (mtb none) ∧ Below w.heap.size w w' := by
  go_enter Tryz.func105, Tryz.ntmps105
  go_wp2
  exact bodyPost_ret (v := mtb none) (by simp [results, Tryz.results105, go_sem, *]) rfl ⟨rfl, by exact below_⟩
theorem smat_any (x : Pc) (nv : Value) (w : World) (ho : pcOk x.k x.ns = true) (hn : NumsAt w nv x.ns) :
    Calls Tryz.prog 105 #[.agg #[.int .u8 x.k.toNat, nv]] w fun e w' => e = .returned (mtb (pcMat x)) ∧ Below w.heap.size w w' := by
  obtain ⟨k, ns⟩ := x
  match ns, ho, hn with
  | [], ho, hn => cases ho
  | [_], ho, hn => cases ho
  | [p, q], ho, hn =>
    by_cases h1 : k = 114
    · subst h1
      exact smat_r nv p q _ _ w hn (Lib.hid ⟨rfl, rfl⟩)
    by_cases h2 : k = 102
    · subst h2
      exact smat_f nv p q _ _ w hn (Lib.hid ⟨rfl, rfl⟩)
    have hz : pcOk k [p, q] = (if k = 97 ∨ k = 100 then inB q 1 100 && inB p 0 q else false) := by
      show (if k = 114 ∨ k = 102 then dirOk p q else if k = 97 ∨ k = 100 then inB q 1 100 && inB p 0 q else false) = _
      rw [if_neg (fun hh => hh.elim h1 h2)]
    have ho2 : pcOk k [p, q] = true := ho
    rw [hz] at ho2
    by_cases h3 : k = 97
    · subst h3
      rw [if_pos (.inl rfl)] at ho2
      simp only [Bool.and_eq_true, inB_iff] at ho2
      exact smat_a nv p q _ w hn ho2.1.1 ho2.1.2 ho2.2.1 ho2.2.2 rfl
    by_cases h4 : k = 100
    · subst h4
      obtain ⟨g, cap, rfl, -⟩ := hn
      exact smat_d _ _ _ w
    · rw [if_neg (fun hh => hh.elim h3 h4)] at ho2
      cases ho2
  | [p, q, n], ho, hn =>
    have ho2 : (if k = 119 then dirOk p q && inB n 0 3 else false) = true := ho
    by_cases h1 : k = 119
    · subst h1
      exact smat_w nv p q n _ _ w hn (Lib.hid ⟨rfl, rfl⟩)
    · rw [if_neg h1] at ho2; cases ho2
  | _ :: _ :: _ :: _ :: _, ho, hn => cases ho
end
section
open Go.RowKit
attribute [local go_sem ↓] Go.wp_at_zero Go.wp_at_succ
/-- The cells of a vector. -/
def jc (a : Jn) : Array Value := #[.int .i64 a.x.re, .int .i64 a.x.im, .int .i64 a.x.den, .int .i64 a.y.re, .int .i64 a.y.im, .int .i64 a.y.den]
theorem blk_j {W : World} {b : Nat} {a : Jn} {ty : TypeId} (h : Blk W b (jc a) ty) : (W.cell? ⟨b, 0, none⟩ = some (.int .i64 a.x.re) ∧ W.cell? ⟨b, 1, none⟩ = some (.int .i64 a.x.im) ∧ W.cell? ⟨b, 2, none⟩ = some (.int .i64 a.x.den) ∧ W.cell? ⟨b, 3, none⟩ = some (.int .i64 a.y.re) ∧ W.cell? ⟨b, 4, none⟩ = some (.int .i64 a.y.im) ∧ W.cell? ⟨b, 5, none⟩ = some (.int .i64 a.y.den)) ∧ (W.frozen? ⟨b, 0, none⟩ = false ∧ W.frozen? ⟨b, 1, none⟩ = false ∧ W.frozen? ⟨b, 2, none⟩ = false ∧ W.frozen? ⟨b, 3, none⟩ = false ∧ W.frozen? ⟨b, 4, none⟩ = false ∧ W.frozen? ⟨b, 5, none⟩ = false) := by
  refine ⟨⟨?_, ?_, ?_, ?_, ?_, ?_⟩, ?_, ?_, ?_, ?_, ?_, ?_⟩ <;> simp [World.cell?, World.frozen?, h, jc]
abbrev set6 (W : World) (b : Nat) (a : Jn) : World := (((((W.setCell ⟨b, 0, none⟩ (.int .i64 a.x.re)).setCell ⟨b, 1, none⟩ (.int .i64 a.x.im)).setCell ⟨b, 2, none⟩ (.int .i64 a.x.den)).setCell ⟨b, 3, none⟩ (.int .i64 a.y.re)).setCell ⟨b, 4, none⟩ (.int .i64 a.y.im)).setCell ⟨b, 5, none⟩ (.int .i64 a.y.den)
theorem blk_set6 {W : World} {b : Nat} {a : Jn} {ty : TypeId} (h : Blk W b (jc a) ty) (u : Jn) : Blk (set6 W b u) b (jc u) ty := by
  simp [Blk, World.setCell, Array.getElem?_modify, h, jc]
theorem far6 {W : World} {b c : Nat} {u : Jn} (h : c ≠ b) : (set6 W b u).heap[c]? = W.heap[c]? :=
  (Below.heap_setCell _ _ _ c h).trans ((Below.heap_setCell _ _ _ c h).trans ((Below.heap_setCell _ _ _ c h).trans ((Below.heap_setCell _ _ _ c h).trans ((Below.heap_setCell _ _ _ c h).trans (Below.heap_setCell _ _ _ c h)))))
/-- What a run keeps. -/
structure RU (ty : TypeId) (sz : Nat) (w : World) (lv : Value) (ps : List Pc) (cur : Jn) (W : World) : Prop where
  B : Below w.heap.size w W
  v : Blk W w.heap.size (jc cur) 26
  r : Blk W (w.heap.size + 1) (jc Z6) 26
  p : Pcs ty sz (w.heap.size + 2) lv ps W
section
variable {ty : TypeId} {sz : Nat} {w W W' : World} {lv : Value} {ps : List Pc} {cur : Jn}
theorem RU.below (h : RU ty sz w lv ps cur W) (hb : Below W.heap.size W W') : RU ty sz w lv ps cur W' :=
  ⟨bstep h.B hb h.B.size, (hb.block _ (blk_lt h.v)).trans h.v, (hb.block _ (blk_lt h.r)).trans h.r, h.p.below hb⟩
theorem Pcs.keep {base : Nat} (h : Pcs ty sz base lv ps W) (hz : W.heap.size ≤ W'.heap.size) (hk : ∀ c, base ≤ c → c < W.heap.size → W'.heap[c]? = W.heap[c]?) : Pcs ty sz base lv ps W' := by
  obtain ⟨hdrs, h⟩ := h
  refine ⟨hdrs, ⟨h.o.1, ?_⟩, fun i x hi => ?_⟩
  · rcases h.o.2 with hn | ⟨g, cap, cur, rfl, hbg, hg, rest⟩
    · exact .inl hn
    · exact .inr ⟨g, cap, cur, rfl, hbg, (hk g hbg (Array.getElem?_eq_some_iff.1 hg).1).trans hg, rest⟩
  · obtain ⟨nv, k1, k2, ⟨g, cap, rfl, n1, n2, n3, n4⟩, k4, k5⟩ := h.r i x hi
    refine ⟨_, k1, k2, ⟨g, cap, rfl, n1, n2, Nat.lt_of_lt_of_le n3 hz, fun j n hj => ?_⟩, k4, k5⟩
    rw [World.cell?_of_block (hk g (k4 g rfl).2 n3)]
    exact n4 j n hj
theorem RU.set (h : RU ty sz w lv ps cur W) (u : Jn) : RU ty sz w lv ps u (set6 W w.heap.size u) :=
  ⟨(((((h.B.setCell (Nat.le_refl _) _).setCell (Nat.le_refl _) _).setCell (Nat.le_refl _) _).setCell (Nat.le_refl _) _).setCell (Nat.le_refl _) _).setCell (Nat.le_refl _) _, blk_set6 h.v u, (far6 (by omega)).trans h.r, h.p.keep (by simp [set6]) (fun c h1 h2 => far6 (by omega))⟩
end
/-- One more piece. -/
theorem run_step {ps : List Pc} {v cur m1 : Jn} {m : Mt} {k : Nat} {x : Pc} {ok fine can : Bool} (hk : ps[k]? = some x) (h1 : ok = (jvalid v && (runL (ps.take k) v).isSome)) (h2 : ok = true → runL (ps.take k) v = some cur)
    (hm : (pcMat x).getD Z12 = m ∧ (pcMat x).isSome = fine) (hn : (mapplyI m cur).getD Z6 = m1 ∧ (mapplyI m cur).isSome = can) :
    ((ok && fine) && can) = (jvalid v && (runL (ps.take (k + 1)) v).isSome) ∧ (((ok && fine) && can) = true → runL (ps.take (k + 1)) v = some m1) := by
  have ht : runL (ps.take (k + 1)) v = runStep (runL (ps.take k) v) x := by
    unfold runL
    rw [List.take_add_one, hk]
    simp
  rw [ht]
  cases hv : jvalid v
  · rw [hv] at h1
    subst h1
    exact ⟨by simp, by simp⟩
  · rw [hv] at h1
    simp only [Bool.true_and] at h1 ⊢
    cases hr : runL (ps.take k) v with
    | none =>
      rw [hr] at h1
      subst h1
      exact ⟨by simp [runStep], by simp⟩
    | some c =>
      rw [hr] at h1
      subst h1
      obtain rfl : c = cur := Option.some.inj (hr.symm.trans (h2 rfl))
      show _ ∧ _
      unfold runStep
      rw [Option.bind_some]
      cases hp : pcMat x with
      | none =>
        rw [hp] at hm
        obtain ⟨-, rfl⟩ := hm
        exact ⟨by simp, by simp⟩
      | some mm =>
        rw [hp] at hm
        obtain ⟨e1, rfl⟩ := hm
        obtain rfl : mm = m := e1
        rw [Option.bind_some]
        cases ha : mapplyI mm c with
        | none =>
          rw [ha] at hn
          obtain ⟨-, rfl⟩ := hn
          exact ⟨by simp, by simp⟩
        | some d =>
          rw [ha] at hn
          obtain ⟨e2, rfl⟩ := hn
          obtain rfl : d = m1 := e2
          exact ⟨by simp, fun _ => rfl⟩
theorem mat_m (x : Pc) (nv : Value) (b : ByteArray) (m : Mt) (fine : Bool) (w : World) (ho : pcOk x.k x.ns = true) (hn : NumsAt w nv x.ns) (hO : GO w) (hZ : GZ w) (hT : GT w) (hm : Hid ((pcMat x).getD Z12 = m ∧ (pcMat x).isSome = fine)) :
    Calls Tryz.prog 77 #[.agg #[.int .u8 x.k.toNat, nv, .string b]] w fun e w' => e = .returned (.tuple #[mtv m, .bool fine]) ∧ Below w.heap.size w w' := by
  rw [← hm.out.1, ← hm.out.2]; exact mat_any x nv b w ho hn hO hZ hT
theorem mapply_m (m : Mt) (v m1 : Jn) (can : Bool) (w : World) (hn : Hid ((mapplyI m v).getD Z6 = m1 ∧ (mapplyI m v).isSome = can)) :
    Calls Tryz.prog 78 #[mtv m, jnv v] w fun e w' => e = .returned (.tuple #[jnv m1, .bool can]) ∧ Below w.heap.size w w' := by
  rw [← hn.out.1, ← hn.out.2]; exact mapply_any m v w
set_option maxRecDepth 100000 in
set_option maxHeartbeats 8000000 in
theorem run_none (s : ByteArray) (v : Jn) (w : World) (hs : s.size ≤ 1048576) (hG : GL w) (hb : benchI s.data.toList = none) :
    Calls Tryz.prog 32 #[.string s, jnv v] w fun e w' => e = .returned (jnb none) ∧ Below w.heap.size w w' := by
  have hG2 : GL ((w.alloc (.cells #[.int .i64 v.x.re, .int .i64 v.x.im, .int .i64 v.x.den, .int .i64 v.y.re, .int .i64 v.y.im, .int .i64 v.y.den] 26)).alloc (.cells #[.int .i64 0, .int .i64 0, .int .i64 0, .int .i64 0, .int .i64 0, .int .i64 0] 26)) := hG.below (by exact below_)
  have hc : ∀ W, GL W → Calls Tryz.prog 75 #[.string s] W fun e w' => e = .returned (.tuple #[.slice none 0 0, .bool false]) ∧ Below W.heap.size W w' := fun W hW =>
    (readBench_any s W hs hW).mono fun e w' ⟨lv, h1, h2, _, h4⟩ => ⟨by rw [h1, h2 hb, hb]; rfl, h4⟩
  clear hb
  go_enter Tryz.func32, Tryz.ntmps32
  go_upto_region 4 with (first | (go_at_call 75; (with_reducible refine (hc _ hG2).mono ?_); rintro e w1 ⟨rfl, hb⟩))
  have hr1 : Blk w1 (w.heap.size + 1) (jc Z6) 26 := by
    refine (hb.block _ (by simp)).trans ?_
    have := heap_alloc_last (w.alloc (.cells #[.int .i64 v.x.re, .int .i64 v.x.im, .int .i64 v.x.den, .int .i64 v.y.re, .int .i64 v.y.im, .int .i64 v.y.den] 26)) (.cells (jc Z6) 26)
    rwa [World.size_alloc] at this
  have hB1 : Below w.heap.size w w1 := bstep (by exact below_) hb (by simp; omega)
  obtain ⟨⟨v0, v1, v2, v3, v4, v5⟩, q0, q1, q2, q3, q4, q5⟩ := blk_j hr1
  clear hb hr1 hG2 hc
  go_loopw [7, 26] (fun okv i wr => okv = .bool false ∧ i = .int .i64 0 ∧ wr = w1) (fun _ _ _ => 0)
  case atStart => exact ⟨rfl, rfl, rfl⟩
  case round =>
    obtain ⟨rfl, rfl, rfl⟩ := hrel
    go_wp2
    exact bodyPost_ret (v := jnb none) (by simp [results, Tryz.results32, go_sem, *]) rfl ⟨rfl, by exact below_⟩
theorem runL_none_take {ps : List Pc} {v : Jn} {k : Nat} (h : runL (ps.take k) v = none) : runL ps v = none := by
  have e : runL ps v = (ps.drop k).foldl runStep (runL (ps.take k) v) := by
    unfold runL
    rw [← List.foldl_append, List.take_append_drop]
  rw [e, h]
  exact runL_none _
theorem runI_some {l : List UInt8} {ps : List Pc} {v : Jn} (h : benchI l = some ps) : runI l v = if jvalid v then runL ps v else none := by
  unfold runI
  rw [h, Option.bind_some]
set_option maxRecDepth 100000 in
set_option maxHeartbeats 20000000 in
theorem run_some (s : ByteArray) (ps : List Pc) (v : Jn) (w : World) (hs : s.size ≤ 1048576) (hG : GL w) (hO : GO w) (hZ : GZ w) (hT : GT w) (hb : benchI s.data.toList = some ps) :
    Calls Tryz.prog 32 #[.string s, jnv v] w fun e w' => e = .returned (jnb (runI s.data.toList v)) ∧ Below w.heap.size w w' := by
  obtain ⟨R, hR⟩ : ∃ R, runI s.data.toList v = R := ⟨_, rfl⟩
  obtain ⟨W0, hW0, hv0, hr0, hB0, hz0⟩ : ∃ W, W = (w.alloc (.cells #[.int .i64 v.x.re, .int .i64 v.x.im, .int .i64 v.x.den, .int .i64 v.y.re, .int .i64 v.y.im, .int .i64 v.y.den] 26)).alloc (.cells #[.int .i64 0, .int .i64 0, .int .i64 0, .int .i64 0, .int .i64 0, .int .i64 0] 26) ∧ Blk W w.heap.size (jc v) 26 ∧ Blk W (w.heap.size + 1) (jc Z6) 26 ∧ Below w.heap.size w W ∧ W.heap.size = w.heap.size + 2 := by
    refine ⟨_, rfl, (Below.heap_alloc _ _ _ (by simp)).trans (heap_alloc_last w _), ?_, by exact below_, by simp⟩
    have := heap_alloc_last (w.alloc (.cells #[.int .i64 v.x.re, .int .i64 v.x.im, .int .i64 v.x.den, .int .i64 v.y.re, .int .i64 v.y.im, .int .i64 v.y.den] 26)) (.cells (jc Z6) 26)
    rwa [World.size_alloc] at this
  have hc : ∀ W, GL W → W.heap.size = w.heap.size + 2 → Calls Tryz.prog 75 #[.string s] W fun e w' => ∃ lv, e = .returned (.tuple #[lv, .bool true]) ∧ Pcs 90 3 (w.heap.size + 2) lv ps w' ∧ Below W.heap.size W w' := fun W hW hz =>
    (readBench_any s W hs hW).mono fun e w' ⟨lv, h1, h2, h3, h4⟩ => ⟨lv, by rw [h1, hb]; rfl, by rw [← hz]; exact h3 ps hb, h4⟩
  have hok := (benchI_ok hb).2
  have hlen := (benchI_ok hb).1
  have hri := runI_some (v := v) hb
  rw [hR] at hri ⊢
  have HRI := Lib.hid hri
  clear hb hri hR
  go_enter Tryz.func32, Tryz.ntmps32
  go_upto_region 1 with fail
  rw [← hW0]
  clear hW0
  go_upto_region 2 with (go_at_call 75; (with_reducible refine (hc _ (hG.below hB0) hz0).mono ?_); rintro e w1 ⟨lv, rfl, hp, hb⟩)
  have hU : RU 90 3 w lv ps v w1 := ⟨bstep hB0 hb hB0.size, (hb.block _ (blk_lt hv0)).trans hv0, (hb.block _ (blk_lt hr0)).trans hr0, hp⟩
  clear hc hp hb hv0 hr0
  obtain ⟨⟨v0, v1, v2, v3, v4, v5⟩, -⟩ := blk_j hU.v
  obtain ⟨ok0, hok0⟩ : ∃ b, jvalid v = b := ⟨_, rfl⟩
  go_upto_region 3 with (go_at_call 76; (with_reducible refine (jvalid_any v _).mono ?_); rw [hok0]; rintro e w2 ⟨rfl, hb⟩)
  have hU2 := hU.below hb
  have HOK0 := Lib.hid hok0
  obtain ⟨A0, cap0, hlv⟩ := hU2.p.slice
  subst hlv
  clear hU hb v0 v1 v2 v3 v4 v5 hok0
  go_upto_region 4 with fail
  go_loopw [7, 26] (fun okv i wr => ∃ (k : Nat) (ok : Bool) (cur : Jn), k ≤ ps.length ∧ i = .int .i64 k ∧ okv = .bool ok ∧ Hid (ok = (jvalid v && (runL (ps.take k) v).isSome) ∧ (ok = true → runL (ps.take k) v = some cur)) ∧ RU 90 3 w (.slice A0 ps.length cap0) ps cur wr) (fun _ i _ => ps.length - (intOf i).toNat)
  case atStart => exact ⟨0, ok0, v, Nat.zero_le _, rfl, rfl, Lib.hid ⟨by rw [HOK0.out]; simp [runL], fun _ => rfl⟩, hU2⟩
  case round =>
    clear hU2
    obtain ⟨k, ok, cur, hk, rfl, rfl, hinv, hU⟩ := hrel
    have hzw := hU.B.size
    by_cases hkl : k < ps.length
    · obtain ⟨x, hx⟩ : ∃ x, ps[k]? = some x := ⟨_, List.getElem?_eq_getElem hkl⟩
      obtain ⟨g, cap, nv, hlv, hcap, hcm, hgb, hgl, c0, c1, hn, hstr⟩ := hU.p.at hx
      obtain ⟨b, c2⟩ := hstr 2 (by omega) (by omega)
      simp only [Value.slice.injEq, true_and] at hlv
      obtain ⟨rfl, rfl⟩ := hlv
      obtain ⟨g2, cap2, rfl, hn2⟩ := hn
      have hn : NumsAt wr (.slice (some ⟨g2, 0, none⟩) x.ns.length cap2) x.ns := ⟨g2, cap2, rfl, hn2⟩
      have hox := hok x (List.mem_of_getElem? hx)
      obtain ⟨m, fine, hm⟩ : ∃ m fine, (pcMat x).getD Z12 = m ∧ (pcMat x).isSome = fine := ⟨_, _, rfl, rfl⟩
      obtain ⟨nx, can, hnx⟩ : ∃ nx can, (mapplyI m cur).getD Z6 = nx ∧ (mapplyI m cur).isSome = can := ⟨_, _, rfl, rfl⟩
      have hst := run_step hx hinv.out.1 hinv.out.2 hm hnx
      have HM := Lib.hid hm
      have HN := Lib.hid hnx
      have HST := Lib.hid hst
      have hki : (k : Int) < ps.length := by omega
      have hkb : (k : Int) + 1 ≤ 9223372036854775807 := by omega
      have hUa := hU.below ((Below.refl _ _).alloc (Nat.le_refl _) (.cells #[.int .u8 x.k.toNat, .slice (some ⟨g2, 0, none⟩) x.ns.length cap2, .string b] 90))
      have hna := hn.below ((Below.refl _ _).alloc (Nat.le_refl _) (.cells #[.int .u8 x.k.toNat, .slice (some ⟨g2, 0, none⟩) x.ns.length cap2, .string b] 90))
      clear hm hnx hst hinv hn hn2 hstr hx hU
      go_upto_region 7 with (go_at_call 77; (with_reducible refine (mat_m x (.slice (some ⟨g2, 0, none⟩) x.ns.length cap2) b m fine _ hox hna (hO.below hUa.B) (hZ.below hUa.B) (hT.below hUa.B) HM).mono ?_); rintro e w3 ⟨rfl, hb⟩)
      have hU3 := hUa.below hb
      have hz3 : w.heap.size < w3.heap.size := blk_lt hU3.v
      obtain ⟨⟨v0, v1, v2, v3, v4, v5⟩, -⟩ := blk_j hU3.v
      clear hUa hna hb c0 c1 c2
      go_upto_region 8 with (go_at_call 78; (with_reducible refine (mapply_m m cur nx can _ HN).mono ?_); rintro e w4 ⟨rfl, hb⟩)
      have hU4 := (hU3.below ((Below.refl _ _).alloc (Nat.le_refl _) (.cells #[.int .i64 m.a.re, .int .i64 m.a.im, .int .i64 m.a.den, .int .i64 m.b.re, .int .i64 m.b.im, .int .i64 m.b.den, .int .i64 m.c.re, .int .i64 m.c.im, .int .i64 m.c.den, .int .i64 m.d.re, .int .i64 m.d.im, .int .i64 m.d.den] 92))).below hb
      have hz4 : w.heap.size < w4.heap.size := blk_lt hU4.v
      clear v0 v1 v2 v3 v4 v5 hb hU3
      obtain ⟨⟨v0, v1, v2, v3, v4, v5⟩, q0, q1, q2, q3, q4, q5⟩ := blk_j hU4.v
      have hU5 := (hU4.set nx).below ((Below.refl _ _).alloc (Nat.le_refl _) (.cells #[.int .i64 nx.x.re, .int .i64 nx.x.im, .int .i64 nx.x.den, .int .i64 nx.y.re, .int .i64 nx.y.im, .int .i64 nx.y.den] 26))
      clear hU4
      cases ok
      · go_wp2
        go_roundw
        case rel => exact ⟨k + 1, _, nx, by omega, by go_num, rfl, Lib.hid (by simpa using HST.out), hU5⟩
        case measure => simp [intOf]; omega
      cases fine
      · go_wp2
        go_roundw
        case rel => exact ⟨k + 1, _, nx, by omega, by go_num, rfl, Lib.hid (by simpa using HST.out), hU5⟩
        case measure => simp [intOf]; omega
      · go_wp2
        go_roundw
        case rel => exact ⟨k + 1, _, nx, by omega, by go_num, rfl, Lib.hid (by simpa using HST.out), hU5⟩
        case measure => simp [intOf]; omega
    · obtain rfl : k = ps.length := by omega
      rw [List.take_length] at hinv
      obtain ⟨⟨v0, v1, v2, v3, v4, v5⟩, -⟩ := blk_j hU.v
      obtain ⟨⟨r0, r1, r2, r3, r4, r5⟩, q0, q1, q2, q3, q4, q5⟩ := blk_j hU.r
      have hBw := hU.B
      cases ok
      · have he : R = none := by
          rw [HRI.out]
          have := hinv.out.1
          cases hj : jvalid v
          · rfl
          · rw [hj] at this
            simp only [Bool.true_and] at this
            cases hr : runL ps v with
            | none => rfl
            | some c => rw [hr] at this; cases this
        have HE := Lib.hid he
        clear he hU HRI hinv
        go_wp2
        exact bodyPost_ret (v := jnb none) (by simp [results, Tryz.results32, go_sem, *]) rfl ⟨by rw [HE.out], by exact below_⟩
      · have he : R = some cur := by
          rw [HRI.out]
          have h1 := hinv.out.1
          have h2 := hinv.out.2 rfl
          cases hj : jvalid v
          · rw [hj] at h1; cases h1
          · exact h2
        have HE := Lib.hid he
        clear he hU HRI hinv
        go_wp2
        exact bodyPost_ret (v := jnb (some cur)) (by simp [results, Tryz.results32, go_sem, *]) rfl ⟨by rw [HE.out], by exact below_⟩
theorem run_any (s : ByteArray) (v : Jn) (w : World) (hs : s.size ≤ 1048576) (hG : GL w) (hO : GO w) (hZ : GZ w) (hT : GT w) :
    Calls Tryz.prog 32 #[.string s, jnv v] w fun e w' => e = .returned (jnb (runI s.data.toList v)) ∧ Below w.heap.size w w' := by
  cases hb : benchI s.data.toList with
  | none =>
    have e : runI s.data.toList v = none := by unfold runI; rw [hb]; rfl
    rw [e]
    exact run_none s v w hs hG hb
  | some ps => exact run_some s ps v w hs hG hO hZ hT hb
end
end Go.Proofs.YtjbnkefeacineaaGreatDoor
