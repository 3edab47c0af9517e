/-
  The walks of the filters of both sides.
-/
import Derived.Test.YtkdggljioekkhaaGreatDoorBo
import Derived.Test.YtkdggljioekkhaaGreatDoorNc
import Derived.Test.YtkdggljioekkhaaGreatDoorNa
import Derived.Test.YtkdggljioekkhaaGreatDoorBc
import Derived.Test.YtkdggljioekkhaaGreatDoorBi
import Derived.BigQuiet
namespace Go.Proofs.YtkdggljioekkhaaGreatDoor
set_option linter.unusedSimpArgs false
set_option linter.unusedVariables false
open Go.RowKit
attribute [local go_sem ↓] Go.wp_at_zero Go.wp_at_succ
structure MG (w : World) (b6 bs : Nat) (cc dd : Fr) (bad : Bool) (W : World) : Prop where
  B : Below w.heap.size w W
  s : SumIs W bs bad
  r : Blk W w.heap.size (mtc ⟨zK, zK, zK, zK⟩) 85
  a : Blk W b6 (frc cc) 26
  b : Blk W (b6 + 1) (frc dd) 26
  l : w.heap.size < b6 ∧ b6 + 1 < bs
section
variable {w W W' : World} {b6 bs : Nat} {cc dd : Fr} {bad bad' : Bool}
theorem MG.drew (h : MG w b6 bs cc dd bad W) : MG w b6 bs cc dd bad W.drew := ⟨h.B.drew, h.s.drew, h.r, h.a, h.b, h.l⟩
theorem MG.step (h : MG w b6 bs cc dd bad W) (X : BelX W.heap.size bs W W') (s : SumIs W' bs bad') : MG w b6 bs cc dd bad' W' := by
  have l1 := blk_lt h.r
  have l2 := blk_lt h.a
  have l3 := blk_lt h.b
  obtain ⟨l4, l5⟩ := h.l
  have l6 := h.B.size
  exact ⟨((BelX.of h.B).trans (X.mono l6)).below (by omega), s, (X.block _ l1 (by omega)).trans h.r, (X.block _ l2 (by omega)).trans h.a, (X.block _ l3 (by omega)).trans h.b, h.l⟩
theorem MG.cells (h : MG w b6 bs cc dd bad W) : W.cell? ⟨b6, 0, none⟩ = some (.int .i64 (cc).re) ∧ W.cell? ⟨b6, 1, none⟩ = some (.int .i64 (cc).im) ∧ W.cell? ⟨b6, 2, none⟩ = some (.int .i64 (cc).den) ∧ W.cell? ⟨b6 + 1, 0, none⟩ = some (.int .i64 (dd).re) ∧ W.cell? ⟨b6 + 1, 1, none⟩ = some (.int .i64 (dd).im) ∧ W.cell? ⟨b6 + 1, 2, none⟩ = some (.int .i64 (dd).den) :=
  ⟨(blk_fr0 h.a).1, (blk_fr0 h.a).2.1, (blk_fr0 h.a).2.2, blk_fr0 h.b⟩
theorem MG.after (h : MG w b6 bs cc dd bad W) (v0 v1 v2 v3 v4 v5 v6 v7 v8 v9 v10 v11 : Value) : (fun w' => w'.cell? ⟨b6, 0, none⟩ = some (.int .i64 (cc).re) ∧ w'.cell? ⟨b6, 1, none⟩ = some (.int .i64 (cc).im) ∧ w'.cell? ⟨b6, 2, none⟩ = some (.int .i64 (cc).den) ∧ w'.cell? ⟨b6 + 1, 0, none⟩ = some (.int .i64 (dd).re) ∧ w'.cell? ⟨b6 + 1, 1, none⟩ = some (.int .i64 (dd).im) ∧ w'.cell? ⟨b6 + 1, 2, none⟩ = some (.int .i64 (dd).den)) (((((((((((((W.setCell ⟨w.heap.size, 0, none⟩ v0).setCell ⟨w.heap.size, 1, none⟩ v1).setCell ⟨w.heap.size, 2, none⟩ v2).setCell ⟨w.heap.size, 3, none⟩ v3).setCell ⟨w.heap.size, 4, none⟩ v4).setCell ⟨w.heap.size, 5, none⟩ v5).setCell ⟨w.heap.size, 6, none⟩ v6).setCell ⟨w.heap.size, 7, none⟩ v7).setCell ⟨w.heap.size, 8, none⟩ v8).setCell ⟨w.heap.size, 9, none⟩ v9).setCell ⟨w.heap.size, 10, none⟩ v10).setCell ⟨w.heap.size, 11, none⟩ v11)) := by
  obtain ⟨c0, c1, c2, d0, d1, d2⟩ := h.cells
  have hl := h.l
  have key : ∀ b o : Nat, b ≠ w.heap.size → (((((((((((((W.setCell ⟨w.heap.size, 0, none⟩ v0).setCell ⟨w.heap.size, 1, none⟩ v1).setCell ⟨w.heap.size, 2, none⟩ v2).setCell ⟨w.heap.size, 3, none⟩ v3).setCell ⟨w.heap.size, 4, none⟩ v4).setCell ⟨w.heap.size, 5, none⟩ v5).setCell ⟨w.heap.size, 6, none⟩ v6).setCell ⟨w.heap.size, 7, none⟩ v7).setCell ⟨w.heap.size, 8, none⟩ v8).setCell ⟨w.heap.size, 9, none⟩ v9).setCell ⟨w.heap.size, 10, none⟩ v10).setCell ⟨w.heap.size, 11, none⟩ v11)).cell? ⟨b, o, none⟩ = W.cell? ⟨b, o, none⟩ := fun b o hb => by
    refine World.cell?_of_block ?_
    exact ((Below.heap_setCell _ _ _ b hb).trans ((Below.heap_setCell _ _ _ b hb).trans ((Below.heap_setCell _ _ _ b hb).trans ((Below.heap_setCell _ _ _ b hb).trans ((Below.heap_setCell _ _ _ b hb).trans ((Below.heap_setCell _ _ _ b hb).trans ((Below.heap_setCell _ _ _ b hb).trans ((Below.heap_setCell _ _ _ b hb).trans ((Below.heap_setCell _ _ _ b hb).trans ((Below.heap_setCell _ _ _ b hb).trans ((Below.heap_setCell _ _ _ b hb).trans (Below.heap_setCell _ _ _ b hb))))))))))))
  have n1 : b6 ≠ w.heap.size := by omega
  have n2 : b6 + 1 ≠ w.heap.size := by omega
  exact ⟨(key _ _ n1).trans c0, (key _ _ n1).trans c1, (key _ _ n1).trans c2, (key _ _ n2).trans d0, (key _ _ n2).trans d1, (key _ _ n2).trans d2⟩
theorem far12m {W : World} {r b o : Nat} {v0 v1 v2 v3 v4 v5 v6 v7 v8 v9 v10 v11 : Value} (hb : b ≠ r) : (((((((((((((W.setCell ⟨r, 0, none⟩ v0).setCell ⟨r, 1, none⟩ v1).setCell ⟨r, 2, none⟩ v2).setCell ⟨r, 3, none⟩ v3).setCell ⟨r, 4, none⟩ v4).setCell ⟨r, 5, none⟩ v5).setCell ⟨r, 6, none⟩ v6).setCell ⟨r, 7, none⟩ v7).setCell ⟨r, 8, none⟩ v8).setCell ⟨r, 9, none⟩ v9).setCell ⟨r, 10, none⟩ v10).setCell ⟨r, 11, none⟩ v11)).cell? ⟨b, o, none⟩ = W.cell? ⟨b, o, none⟩ := World.cell?_of_block ((Below.heap_setCell _ _ _ b hb).trans ((Below.heap_setCell _ _ _ b hb).trans ((Below.heap_setCell _ _ _ b hb).trans ((Below.heap_setCell _ _ _ b hb).trans ((Below.heap_setCell _ _ _ b hb).trans ((Below.heap_setCell _ _ _ b hb).trans ((Below.heap_setCell _ _ _ b hb).trans ((Below.heap_setCell _ _ _ b hb).trans ((Below.heap_setCell _ _ _ b hb).trans ((Below.heap_setCell _ _ _ b hb).trans ((Below.heap_setCell _ _ _ b hb).trans (Below.heap_setCell _ _ _ b hb))))))))))))
theorem MG.after2 (h : MG w b6 bs cc dd bad W) {v0 v1 v2 v3 v4 v5 v6 v7 v8 v9 v10 v11 : Value} : (((((((((((((W.setCell ⟨w.heap.size, 0, none⟩ v0).setCell ⟨w.heap.size, 1, none⟩ v1).setCell ⟨w.heap.size, 2, none⟩ v2).setCell ⟨w.heap.size, 3, none⟩ v3).setCell ⟨w.heap.size, 4, none⟩ v4).setCell ⟨w.heap.size, 5, none⟩ v5).setCell ⟨w.heap.size, 6, none⟩ v6).setCell ⟨w.heap.size, 7, none⟩ v7).setCell ⟨w.heap.size, 8, none⟩ v8).setCell ⟨w.heap.size, 9, none⟩ v9).setCell ⟨w.heap.size, 10, none⟩ v10).setCell ⟨w.heap.size, 11, none⟩ v11)).cell? ⟨b6, 0, none⟩ = some (.int .i64 (cc).re) ∧ (((((((((((((W.setCell ⟨w.heap.size, 0, none⟩ v0).setCell ⟨w.heap.size, 1, none⟩ v1).setCell ⟨w.heap.size, 2, none⟩ v2).setCell ⟨w.heap.size, 3, none⟩ v3).setCell ⟨w.heap.size, 4, none⟩ v4).setCell ⟨w.heap.size, 5, none⟩ v5).setCell ⟨w.heap.size, 6, none⟩ v6).setCell ⟨w.heap.size, 7, none⟩ v7).setCell ⟨w.heap.size, 8, none⟩ v8).setCell ⟨w.heap.size, 9, none⟩ v9).setCell ⟨w.heap.size, 10, none⟩ v10).setCell ⟨w.heap.size, 11, none⟩ v11)).cell? ⟨b6, 1, none⟩ = some (.int .i64 (cc).im) ∧ (((((((((((((W.setCell ⟨w.heap.size, 0, none⟩ v0).setCell ⟨w.heap.size, 1, none⟩ v1).setCell ⟨w.heap.size, 2, none⟩ v2).setCell ⟨w.heap.size, 3, none⟩ v3).setCell ⟨w.heap.size, 4, none⟩ v4).setCell ⟨w.heap.size, 5, none⟩ v5).setCell ⟨w.heap.size, 6, none⟩ v6).setCell ⟨w.heap.size, 7, none⟩ v7).setCell ⟨w.heap.size, 8, none⟩ v8).setCell ⟨w.heap.size, 9, none⟩ v9).setCell ⟨w.heap.size, 10, none⟩ v10).setCell ⟨w.heap.size, 11, none⟩ v11)).cell? ⟨b6, 2, none⟩ = some (.int .i64 (cc).den) ∧ (((((((((((((W.setCell ⟨w.heap.size, 0, none⟩ v0).setCell ⟨w.heap.size, 1, none⟩ v1).setCell ⟨w.heap.size, 2, none⟩ v2).setCell ⟨w.heap.size, 3, none⟩ v3).setCell ⟨w.heap.size, 4, none⟩ v4).setCell ⟨w.heap.size, 5, none⟩ v5).setCell ⟨w.heap.size, 6, none⟩ v6).setCell ⟨w.heap.size, 7, none⟩ v7).setCell ⟨w.heap.size, 8, none⟩ v8).setCell ⟨w.heap.size, 9, none⟩ v9).setCell ⟨w.heap.size, 10, none⟩ v10).setCell ⟨w.heap.size, 11, none⟩ v11)).cell? ⟨b6 + 1, 0, none⟩ = some (.int .i64 (dd).re) ∧ (((((((((((((W.setCell ⟨w.heap.size, 0, none⟩ v0).setCell ⟨w.heap.size, 1, none⟩ v1).setCell ⟨w.heap.size, 2, none⟩ v2).setCell ⟨w.heap.size, 3, none⟩ v3).setCell ⟨w.heap.size, 4, none⟩ v4).setCell ⟨w.heap.size, 5, none⟩ v5).setCell ⟨w.heap.size, 6, none⟩ v6).setCell ⟨w.heap.size, 7, none⟩ v7).setCell ⟨w.heap.size, 8, none⟩ v8).setCell ⟨w.heap.size, 9, none⟩ v9).setCell ⟨w.heap.size, 10, none⟩ v10).setCell ⟨w.heap.size, 11, none⟩ v11)).cell? ⟨b6 + 1, 1, none⟩ = some (.int .i64 (dd).im) ∧ (((((((((((((W.setCell ⟨w.heap.size, 0, none⟩ v0).setCell ⟨w.heap.size, 1, none⟩ v1).setCell ⟨w.heap.size, 2, none⟩ v2).setCell ⟨w.heap.size, 3, none⟩ v3).setCell ⟨w.heap.size, 4, none⟩ v4).setCell ⟨w.heap.size, 5, none⟩ v5).setCell ⟨w.heap.size, 6, none⟩ v6).setCell ⟨w.heap.size, 7, none⟩ v7).setCell ⟨w.heap.size, 8, none⟩ v8).setCell ⟨w.heap.size, 9, none⟩ v9).setCell ⟨w.heap.size, 10, none⟩ v10).setCell ⟨w.heap.size, 11, none⟩ v11)).cell? ⟨b6 + 1, 2, none⟩ = some (.int .i64 (dd).den) := h.after v0 v1 v2 v3 v4 v5 v6 v7 v8 v9 v10 v11
theorem MG.out (h : MG w b6 bs cc dd bad W) : (∀ o, o < 12 → W.cell? ⟨w.heap.size, o, none⟩ = some (.int .i64 0)) ∧ ∀ o, W.frozen? ⟨w.heap.size, o, none⟩ = false := by
  refine ⟨fun o ho => ?_, fun o => ?_⟩
  · have : (mtc ⟨zK, zK, zK, zK⟩)[o]? = some (.int .i64 0) := by
      match o, ho with
      | 0, _ => rfl | 1, _ => rfl | 2, _ => rfl | 3, _ => rfl | 4, _ => rfl | 5, _ => rfl | 6, _ => rfl | 7, _ => rfl | 8, _ => rfl | 9, _ => rfl | 10, _ => rfl | 11, _ => rfl
    rw [cell_of_row W w.heap.size o _ _ _ h.r]; exact this
  · have := h.r
    simp [World.frozen?, this]
end
theorem xt_q (a b p : Fr) (pn : Bool) (bs : Nat) (w : World) (hs : SumEx w bs) (hp : Hid (vN (timesI a b) = p)) (hn : Hid ((timesI a b).isNone = pn)) :
    Calls Tryz.prog 45 #[.pointer (some ⟨bs, 0, none⟩), frv a, frv b] w fun e w' => e = .returned (frv p) ∧ (∀ c, SumIs w bs c → SumIs w' bs (c || pn)) ∧ BelX w.heap.size bs w w' := by
  rw [← hp.out, ← hn.out]; exact x_times a b bs w hs
theorem got_q (p1 p2 p3 : Fr) (b4 okk : Bool) (R : Mt) (bs : Nat) (w : World) (hs : SumIs w bs b4) (hR : Hid (gotF b4 Z12 (⟨p1, p2, p2, p3⟩ : Mt) = R ∧ (!b4) = okk)) :
    Calls Tryz.prog 131 #[.pointer (some ⟨bs, 0, none⟩), mtv ⟨p1, p2, p2, p3⟩] w fun e w' => e = .returned (.tuple #[mtv R, .bool okk]) ∧ Below w.heap.size w w' := by
  refine (got_mat ⟨p1, p2, p2, p3⟩ bs w (SumEx.of hs)).mono fun e w' ⟨b, h1, h2, h3⟩ => ⟨?_, h3⟩
  obtain rfl := h1.uniq hs
  rw [h2, hR.out.1, hR.out.2]
set_option maxRecDepth 100000 in
set_option maxHeartbeats 40000000 in
theorem filter_g (p q : Int) (cc dd : Fr) (told : Bool) (w : World) (hdir : ∀ w, Calls Tryz.prog 127 #[.int .i64 p, .int .i64 q] w fun e w' => e = .returned (.tuple #[frv cc, frv dd, .bool told]) ∧ Below w.heap.size w w') :
    Calls Tryz.prog 120 #[.int .i64 p, .int .i64 q] w fun e w' => e = .returned (.tuple #[mtv (gotF ((((!told || (timesI cc cc).isNone) || (timesI cc dd).isNone) || (timesI cc dd).isNone) || (timesI dd dd).isNone) Z12 ⟨vN (timesI cc cc), vN (timesI cc dd), vN (timesI cc dd), vN (timesI dd dd)⟩), .bool (!((((!told || (timesI cc cc).isNone) || (timesI cc dd).isNone) || (timesI cc dd).isNone) || (timesI dd dd).isNone))]) ∧ Below w.heap.size w w' := by
  obtain ⟨p1, hp1⟩ : ∃ x, vN (timesI cc cc) = x := ⟨_, rfl⟩
  obtain ⟨p2, hp2⟩ : ∃ x, vN (timesI cc dd) = x := ⟨_, rfl⟩
  obtain ⟨p3, hp3⟩ : ∃ x, vN (timesI dd dd) = x := ⟨_, rfl⟩
  obtain ⟨q1, hq1⟩ : ∃ x, (timesI cc cc).isNone = x := ⟨_, rfl⟩
  obtain ⟨q2, hq2⟩ : ∃ x, (timesI cc dd).isNone = x := ⟨_, rfl⟩
  obtain ⟨q3, hq3⟩ : ∃ x, (timesI dd dd).isNone = x := ⟨_, rfl⟩
  rw [hp1, hp2, hp3, hq1, hq2, hq3]
  have HP1 := Lib.hid hp1
  have HP2 := Lib.hid hp2
  have HP3 := Lib.hid hp3
  have HQ1 := Lib.hid hq1
  have HQ2 := Lib.hid hq2
  have HQ3 := Lib.hid hq3
  obtain ⟨b0, hb0⟩ : ∃ x, (!told) = x := ⟨_, rfl⟩
  obtain ⟨b1, hb1⟩ : ∃ x, (b0 || q1) = x := ⟨_, rfl⟩
  obtain ⟨b2, hb2⟩ : ∃ x, (b1 || q2) = x := ⟨_, rfl⟩
  obtain ⟨b3, hb3⟩ : ∃ x, (b2 || q2) = x := ⟨_, rfl⟩
  obtain ⟨b4, hb4⟩ : ∃ x, (b3 || q3) = x := ⟨_, rfl⟩
  rw [hb0, hb1, hb2, hb3, hb4]
  obtain ⟨R, hR⟩ : ∃ R, gotF b4 Z12 (⟨p1, p2, p2, p3⟩ : Mt) = R := ⟨_, rfl⟩
  obtain ⟨okk, hok⟩ : ∃ x, (!b4) = x := ⟨_, rfl⟩
  rw [hR, hok]
  have HR := Lib.hid (And.intro hR hok)
  have HB0' := Lib.hid hb0
  have HB1' := Lib.hid hb1
  have HB2' := Lib.hid hb2
  have HB3' := Lib.hid hb3
  have HB4' := Lib.hid hb4
  clear hp1 hp2 hp3 hq1 hq2 hq3 hR hok hb0 hb1 hb2 hb3 hb4
  go_enter Tryz.func120, Tryz.ntmps120
  go_upto_region 3 with (first | (go_at_call 127; (with_reducible refine (hdir _).mono ?_); rintro e w1 ⟨rfl, hb1⟩; have HB1 := Lib.hid hb1; clear hb1) | (go_at_call 41; (with_reducible refine (x_need told (w1.heap.size + 1 + 1) _ (SumEx.of (SumIs.new' (by simp)))).mono ?_); rintro e w2 ⟨rfl, hu, hx⟩; have HS2 := Lib.hid (hu false (SumIs.new' (by simp))); have HX2 := Lib.hid hx; clear hu hx))
  have hb1 := HB1.out
  have hs2 := HS2.out
  have hx2 := HX2.out
  clear HB1 HS2 HX2
  have z1' := hb1.size
  rw [World.size_alloc] at z1'
  have hM : MG w w1.heap.size (w1.heap.size + 1 + 1) cc dd b0 w2 := by
    obtain ⟨W3, h3⟩ : ∃ W, W = ((w1.alloc (.cells (frc cc) 26)).alloc (.cells (frc dd) 26)).alloc (.cells #[.bool false] 66) := ⟨_, rfl⟩
    have z3 : W3.heap.size = w1.heap.size + 1 + 1 + 1 := by rw [h3]; simp
    have hx3 : BelX W3.heap.size (w1.heap.size + 1 + 1) W3 w2 := by rw [h3]; exact hx2
    have r3 : Blk W3 w.heap.size (mtc ⟨zK, zK, zK, zK⟩) 85 := by
      rw [h3]
      refine (Below.heap_alloc _ _ _ (by simp; omega)).trans ((Below.heap_alloc _ _ _ (by simp; omega)).trans ((Below.heap_alloc _ _ _ (by omega)).trans ((hb1.block _ (by simp)).trans (heap_alloc_last w _))))
    have a3 : Blk W3 w1.heap.size (frc cc) 26 := by
      rw [h3]
      exact (Below.heap_alloc _ _ _ (by simp; omega)).trans ((Below.heap_alloc _ _ _ (by simp)).trans (heap_alloc_last w1 _))
    have b3 : Blk W3 (w1.heap.size + 1) (frc dd) 26 := by
      rw [h3]
      refine (Below.heap_alloc _ _ _ (by simp)).trans ?_
      have := heap_alloc_last (w1.alloc (.cells (frc cc) 26)) (.cells (frc dd) 26)
      rwa [World.size_alloc] at this
    have B3 : Below w.heap.size w W3 := by
      rw [h3]
      have b0 : Below w.heap.size w w1 := bstep ((Below.refl _ _).alloc (Nat.le_refl _) _) hb1 (by simp)
      exact ((b0.alloc (by omega) _).alloc (by simp; omega) _).alloc (by simp; omega) _
    have hs2' : SumIs w2 (w1.heap.size + 1 + 1) b0 := by rw [← HB0'.out]; simpa using hs2
    exact ⟨((BelX.of B3).trans (hx3.mono (by omega))).below (by omega), hs2', (hx3.block _ (by omega) (by omega)).trans r3, (hx3.block _ (by omega) (by omega)).trans a3, (hx3.block _ (by omega) (by omega)).trans b3, by omega⟩
  clear hs2 hx2 hb1 hdir
  have hn1 : ¬ w.heap.size = w1.heap.size := by omega
  have hn2 : ¬ w.heap.size = w1.heap.size + 1 := by omega
  refine wp_region_noPanic ?_
  refine wp_region_held_drew (S := fun w' => w'.cell? ⟨w1.heap.size, 0, none⟩ = some (.int .i64 (cc).re) ∧ w'.cell? ⟨w1.heap.size, 1, none⟩ = some (.int .i64 (cc).im) ∧ w'.cell? ⟨w1.heap.size, 2, none⟩ = some (.int .i64 (cc).den) ∧ w'.cell? ⟨w1.heap.size + 1, 0, none⟩ = some (.int .i64 (dd).re) ∧ w'.cell? ⟨w1.heap.size + 1, 1, none⟩ = some (.int .i64 (dd).im) ∧ w'.cell? ⟨w1.heap.size + 1, 2, none⟩ = some (.int .i64 (dd).den)) (by kernel_rfl) ?_ (fun hHeld => ?_)
  · exact MG.cells (MG.drew hM)
  refine wpAnyH_take (i := 0) (v := ?vq1) (by simp; rfl) (by kernel_rfl) (by kernel_rfl) (by kernel_rfl) (fun _ _ _ h => h) (Or.inl ⟨by rfl, ?yq1⟩) (by assumption) ?rq1
  case yq1 => (intro w' hSw; obtain ⟨s0, s1, s2, s3, s4, s5⟩ := hSw; (try dsimp only at s0 s1 s2 s3 s4 s5); go_simp; first | done | with_reducible rfl)
  (try simp only [Act.put, List.setIfInBounds_toArray, List.set_cons_zero, List.set_cons_succ])
  refine wpAnyH_take (i := 1) (v := ?vq2) (by simp; rfl) (by kernel_rfl) (by kernel_rfl) (by kernel_rfl) (fun _ _ _ h => h) (Or.inl ⟨by rfl, ?yq2⟩) (by assumption) ?rq2
  case yq2 => (intro w' hSw; obtain ⟨s0, s1, s2, s3, s4, s5⟩ := hSw; (try dsimp only at s0 s1 s2 s3 s4 s5); go_simp; first | done | with_reducible rfl)
  (try simp only [Act.put, List.setIfInBounds_toArray, List.set_cons_zero, List.set_cons_succ])
  refine wpAnyH_take (i := 2) (v := ?vq3) (by simp; rfl) (by kernel_rfl) (by kernel_rfl) (by kernel_rfl) (fun _ _ _ h => h) (Or.inl ⟨by rfl, ?yq3⟩) (by assumption) ?rq3
  case yq3 => (intro w' hSw; obtain ⟨s0, s1, s2, s3, s4, s5⟩ := hSw; (try dsimp only at s0 s1 s2 s3 s4 s5); go_simp; first | done | with_reducible rfl)
  (try simp only [Act.put, List.setIfInBounds_toArray, List.set_cons_zero, List.set_cons_succ])
  refine wpAnyH_take (i := 3) (v := ?vq4) (by simp; rfl) (by kernel_rfl) (by kernel_rfl) (by kernel_rfl) (fun _ _ _ h => h) (Or.inl ⟨by rfl, ?yq4⟩) (by assumption) ?rq4
  case yq4 => (intro w' hSw; obtain ⟨s0, s1, s2, s3, s4, s5⟩ := hSw; (try dsimp only at s0 s1 s2 s3 s4 s5); go_simp; first | done | with_reducible rfl)
  (try simp only [Act.put, List.setIfInBounds_toArray, List.set_cons_zero, List.set_cons_succ])
  refine wpAnyH_take (i := 5) (v := ?vq5) (by simp; rfl) (by kernel_rfl) (by kernel_rfl) (by kernel_rfl) (fun _ _ _ h => h) (Or.inl ⟨by rfl, ?yq5⟩) (by assumption) ?rq5
  case yq5 => (intro w' hSw; obtain ⟨s0, s1, s2, s3, s4, s5⟩ := hSw; (try dsimp only at s0 s1 s2 s3 s4 s5); go_simp; first | done | with_reducible rfl)
  (try simp only [Act.put, List.setIfInBounds_toArray, List.set_cons_zero, List.set_cons_succ])
  refine wpAnyH_take (i := 6) (v := ?vq6) (by simp; rfl) (by kernel_rfl) (by kernel_rfl) (by kernel_rfl) (fun _ _ _ h => h) (Or.inl ⟨by rfl, ?yq6⟩) (by assumption) ?rq6
  case yq6 => (intro w' hSw; obtain ⟨s0, s1, s2, s3, s4, s5⟩ := hSw; (try dsimp only at s0 s1 s2 s3 s4 s5); go_simp; first | done | with_reducible rfl)
  (try simp only [Act.put, List.setIfInBounds_toArray, List.set_cons_zero, List.set_cons_succ])
  refine wpAnyH_take (i := 7) (v := ?vq7) (by simp; rfl) (by kernel_rfl) (by kernel_rfl) (by kernel_rfl) (fun _ _ _ h => h) (Or.inl ⟨by rfl, ?yq7⟩) (by assumption) ?rq7
  case yq7 => (intro w' hSw; obtain ⟨s0, s1, s2, s3, s4, s5⟩ := hSw; (try dsimp only at s0 s1 s2 s3 s4 s5); go_simp; first | done | with_reducible rfl)
  (try simp only [Act.put, List.setIfInBounds_toArray, List.set_cons_zero, List.set_cons_succ])
  refine wpAnyH_take (i := 9) (v := ?vq8) (by simp; rfl) (by kernel_rfl) (by kernel_rfl) (by kernel_rfl) (fun _ _ _ h => h) (Or.inl ⟨by rfl, ?yq8⟩) (by assumption) ?rq8
  case yq8 => (intro w' hSw; obtain ⟨s0, s1, s2, s3, s4, s5⟩ := hSw; (try dsimp only at s0 s1 s2 s3 s4 s5); go_simp; first | done | with_reducible rfl)
  (try simp only [Act.put, List.setIfInBounds_toArray, List.set_cons_zero, List.set_cons_succ])
  refine wpAnyH_take (i := 10) (v := ?vq9) (by simp; rfl) (by kernel_rfl) (by kernel_rfl) (by kernel_rfl) (fun _ _ _ h => h) (Or.inl ⟨by rfl, ?yq9⟩) (by assumption) ?rq9
  case yq9 => (intro w' hSw; obtain ⟨s0, s1, s2, s3, s4, s5⟩ := hSw; (try dsimp only at s0 s1 s2 s3 s4 s5); go_simp; first | done | with_reducible rfl)
  (try simp only [Act.put, List.setIfInBounds_toArray, List.set_cons_zero, List.set_cons_succ])
  refine wpAnyH_take (i := 11) (v := ?vq10) (by simp; rfl) (by kernel_rfl) (by kernel_rfl) (by kernel_rfl) (fun _ _ _ h => h) (Or.inl ⟨by rfl, ?yq10⟩) (by assumption) ?rq10
  case yq10 => (intro w' hSw; obtain ⟨s0, s1, s2, s3, s4, s5⟩ := hSw; (try dsimp only at s0 s1 s2 s3 s4 s5); go_simp; first | done | with_reducible rfl)
  (try simp only [Act.put, List.setIfInBounds_toArray, List.set_cons_zero, List.set_cons_succ])
  refine wpAnyH_take (i := 13) (v := ?vq11) (by simp; rfl) (by kernel_rfl) (by kernel_rfl) (by kernel_rfl) (fun _ _ _ h => h) (Or.inl ⟨by rfl, ?yq11⟩) (by assumption) ?rq11
  case yq11 => (intro w' hSw; obtain ⟨s0, s1, s2, s3, s4, s5⟩ := hSw; (try dsimp only at s0 s1 s2 s3 s4 s5); go_simp; first | done | with_reducible rfl)
  (try simp only [Act.put, List.setIfInBounds_toArray, List.set_cons_zero, List.set_cons_succ])
  refine wpAnyH_take (i := 14) (v := ?vq12) (by simp; rfl) (by kernel_rfl) (by kernel_rfl) (by kernel_rfl) (fun _ _ _ h => h) (Or.inl ⟨by rfl, ?yq12⟩) (by assumption) ?rq12
  case yq12 => (intro w' hSw; obtain ⟨s0, s1, s2, s3, s4, s5⟩ := hSw; (try dsimp only at s0 s1 s2 s3 s4 s5); go_simp; first | done | with_reducible rfl)
  (try simp only [Act.put, List.setIfInBounds_toArray, List.set_cons_zero, List.set_cons_succ])
  refine wpAnyH_take (i := 15) (v := ?vq13) (by simp; rfl) (by kernel_rfl) (by kernel_rfl) (by kernel_rfl) (fun _ _ _ h => h) (Or.inl ⟨by rfl, ?yq13⟩) (by assumption) ?rq13
  case yq13 => (intro w' hSw; obtain ⟨s0, s1, s2, s3, s4, s5⟩ := hSw; (try dsimp only at s0 s1 s2 s3 s4 s5); go_simp; first | done | with_reducible rfl)
  (try simp only [Act.put, List.setIfInBounds_toArray, List.set_cons_zero, List.set_cons_succ])
  refine wpAnyH_ready (rs := [4]) (by kernel_rfl) (by simp) ?_
  refine AllReadyH.cons (by simp; rfl) (fun K hK => ?_) AllReadyH.nil
  go_simp
  (go_at_call 45; (with_reducible refine (xt_q cc cc p1 q1 (w1.heap.size + 1 + 1) _ (SumEx.of (MG.s (w := w) (b6 := w1.heap.size) (cc := cc) (dd := dd) (by (first | (with_reducible assumption) | (with_reducible exact MG.drew (by with_reducible assumption)))))) HP1 HQ1).mono ?_); rintro e wd ⟨rfl, hu, hx⟩; have hC : MG w w1.heap.size (w1.heap.size + 1 + 1) cc dd b1 wd := MG.step (w := w) (b6 := w1.heap.size) (cc := cc) (dd := dd) (bs := (w1.heap.size + 1 + 1)) (by (first | (with_reducible assumption) | (with_reducible exact MG.drew (by with_reducible assumption)))) hx (by rw [← HB1'.out]; exact hu _ (MG.s (w := w) (b6 := w1.heap.size) (cc := cc) (dd := dd) (bad := b0) (by (first | (with_reducible assumption) | (with_reducible exact MG.drew (by with_reducible assumption)))))); clear hu hx)
  refine hK.out _ _ ?_ (fun hHeld => ?_)
  · exact MG.cells hC
  clear hK K
  (try simp only [Act.put, List.setIfInBounds_toArray, List.set_cons_zero, List.set_cons_succ])
  refine wpAnyH_ready (rs := [8]) (by kernel_rfl) (by simp) ?_
  refine AllReadyH.cons (by simp; rfl) (fun K hK => ?_) AllReadyH.nil
  go_simp
  (go_at_call 45; (with_reducible refine (xt_q cc dd p2 q2 (w1.heap.size + 1 + 1) _ (SumEx.of (MG.s (w := w) (b6 := w1.heap.size) (cc := cc) (dd := dd) (by (first | (with_reducible assumption) | (with_reducible exact MG.drew (by with_reducible assumption)))))) HP2 HQ2).mono ?_); rintro e wd ⟨rfl, hu, hx⟩; have hC : MG w w1.heap.size (w1.heap.size + 1 + 1) cc dd b2 wd := MG.step (w := w) (b6 := w1.heap.size) (cc := cc) (dd := dd) (bs := (w1.heap.size + 1 + 1)) (by (first | (with_reducible assumption) | (with_reducible exact MG.drew (by with_reducible assumption)))) hx (by rw [← HB2'.out]; exact hu _ (MG.s (w := w) (b6 := w1.heap.size) (cc := cc) (dd := dd) (bad := b1) (by (first | (with_reducible assumption) | (with_reducible exact MG.drew (by with_reducible assumption)))))); clear hu hx)
  refine hK.out _ _ ?_ (fun hHeld => ?_)
  · exact MG.cells hC
  clear hK K
  (try simp only [Act.put, List.setIfInBounds_toArray, List.set_cons_zero, List.set_cons_succ])
  refine wpAnyH_ready (rs := [12]) (by kernel_rfl) (by simp) ?_
  refine AllReadyH.cons (by simp; rfl) (fun K hK => ?_) AllReadyH.nil
  go_simp
  (go_at_call 45; (with_reducible refine (xt_q cc dd p2 q2 (w1.heap.size + 1 + 1) _ (SumEx.of (MG.s (w := w) (b6 := w1.heap.size) (cc := cc) (dd := dd) (by (first | (with_reducible assumption) | (with_reducible exact MG.drew (by with_reducible assumption)))))) HP2 HQ2).mono ?_); rintro e wd ⟨rfl, hu, hx⟩; have hC : MG w w1.heap.size (w1.heap.size + 1 + 1) cc dd b3 wd := MG.step (w := w) (b6 := w1.heap.size) (cc := cc) (dd := dd) (bs := (w1.heap.size + 1 + 1)) (by (first | (with_reducible assumption) | (with_reducible exact MG.drew (by with_reducible assumption)))) hx (by rw [← HB3'.out]; exact hu _ (MG.s (w := w) (b6 := w1.heap.size) (cc := cc) (dd := dd) (bad := b2) (by (first | (with_reducible assumption) | (with_reducible exact MG.drew (by with_reducible assumption)))))); clear hu hx)
  refine hK.out _ _ ?_ (fun hHeld => ?_)
  · exact MG.cells hC
  clear hK K
  (try simp only [Act.put, List.setIfInBounds_toArray, List.set_cons_zero, List.set_cons_succ])
  refine wpAnyH_ready (rs := [16]) (by kernel_rfl) (by simp) ?_
  refine AllReadyH.cons (by simp; rfl) (fun K hK => ?_) AllReadyH.nil
  go_simp
  (go_at_call 45; (with_reducible refine (xt_q dd dd p3 q3 (w1.heap.size + 1 + 1) _ (SumEx.of (MG.s (w := w) (b6 := w1.heap.size) (cc := cc) (dd := dd) (by (first | (with_reducible assumption) | (with_reducible exact MG.drew (by with_reducible assumption)))))) HP3 HQ3).mono ?_); rintro e wd ⟨rfl, hu, hx⟩; have hC : MG w w1.heap.size (w1.heap.size + 1 + 1) cc dd b4 wd := MG.step (w := w) (b6 := w1.heap.size) (cc := cc) (dd := dd) (bs := (w1.heap.size + 1 + 1)) (by (first | (with_reducible assumption) | (with_reducible exact MG.drew (by with_reducible assumption)))) hx (by rw [← HB4'.out]; exact hu _ (MG.s (w := w) (b6 := w1.heap.size) (cc := cc) (dd := dd) (bad := b3) (by (first | (with_reducible assumption) | (with_reducible exact MG.drew (by with_reducible assumption)))))); clear hu hx)
  refine hK.out _ _ ?_ (fun hHeld => ?_)
  · exact MG.cells hC
  clear hK K
  (try simp only [Act.put, List.setIfInBounds_toArray, List.set_cons_zero, List.set_cons_succ])
  refine wpAnyH_take (i := 17) (v := ?vq18) (by simp; rfl) (by kernel_rfl) (by kernel_rfl) (by kernel_rfl) (fun _ _ _ h => h) (Or.inl ⟨by rfl, ?yq18⟩) (by assumption) ?rq18
  case yq18 => (intro w' hSw; obtain ⟨s0, s1, s2, s3, s4, s5⟩ := hSw; (try dsimp only at s0 s1 s2 s3 s4 s5); go_simp; first | done | with_reducible rfl)
  (try simp only [Act.put, List.setIfInBounds_toArray, List.set_cons_zero, List.set_cons_succ])
  refine wpAnyH_take (i := 18) (v := ?vq19) (by simp; rfl) (by kernel_rfl) (by kernel_rfl) (by kernel_rfl) (fun _ _ _ h => h) (Or.inl ⟨by rfl, ?yq19⟩) (by assumption) ?rq19
  case yq19 => (intro w' hSw; obtain ⟨s0, s1, s2, s3, s4, s5⟩ := hSw; (try dsimp only at s0 s1 s2 s3 s4 s5); go_simp; first | done | with_reducible rfl)
  (try simp only [Act.put, List.setIfInBounds_toArray, List.set_cons_zero, List.set_cons_succ])
  refine wpAnyH_ready (rs := [19]) (by kernel_rfl) (by simp) ?_
  refine AllReadyH.cons (by simp; rfl) (fun K hK => ?_) AllReadyH.nil
  go_simp
  (go_at_call 131; (with_reducible refine (got_q p1 p2 p3 b4 okk R (w1.heap.size + 1 + 1) _ (MG.s (w := w) (b6 := w1.heap.size) (cc := cc) (dd := dd) (by (first | (with_reducible assumption) | (with_reducible exact MG.drew (by with_reducible assumption))))) HR).mono ?_); rintro e wd ⟨rfl, hb⟩; have hC : MG w w1.heap.size (w1.heap.size + 1 + 1) cc dd b4 wd := MG.step (w := w) (b6 := w1.heap.size) (cc := cc) (dd := dd) (bs := (w1.heap.size + 1 + 1)) (by (first | (with_reducible assumption) | (with_reducible exact MG.drew (by with_reducible assumption)))) (BelX.of hb) (SumIs.below (MG.s (w := w) (b6 := w1.heap.size) (cc := cc) (dd := dd) (by (first | (with_reducible assumption) | (with_reducible exact MG.drew (by with_reducible assumption))))) hb (SumIs.lt (MG.s (w := w) (b6 := w1.heap.size) (cc := cc) (dd := dd) (bad := b4) (by (first | (with_reducible assumption) | (with_reducible exact MG.drew (by with_reducible assumption))))))); clear hb; obtain ⟨ho1, ho2⟩ := hC.out; have hB := hC.B; have k0 := ho1 0 (by decide); have k1 := ho1 1 (by decide); have k2 := ho1 2 (by decide); have k3 := ho1 3 (by decide); have k4 := ho1 4 (by decide); have k5 := ho1 5 (by decide); have k6 := ho1 6 (by decide); have k7 := ho1 7 (by decide); have k8 := ho1 8 (by decide); have k9 := ho1 9 (by decide); have k10 := ho1 10 (by decide); have k11 := ho1 11 (by decide); clear ho1)
  refine hK.out _ _ ?_ (fun hHeld => ?_)
  · exact MG.cells hC
  clear hK K
  (try simp only [Act.put, List.setIfInBounds_toArray, List.set_cons_zero, List.set_cons_succ])
  refine wpAnyH_take (i := 20) (v := ?vq21) (by simp; rfl) (by kernel_rfl) (by kernel_rfl) (by kernel_rfl) (fun _ _ _ h => h) (Or.inl ⟨by rfl, ?yq21⟩) (by assumption) ?rq21
  case yq21 => (intro w' hSw; obtain ⟨s0, s1, s2, s3, s4, s5⟩ := hSw; (try dsimp only at s0 s1 s2 s3 s4 s5); go_simp; first | done | with_reducible rfl)
  (try simp only [Act.put, List.setIfInBounds_toArray, List.set_cons_zero, List.set_cons_succ])
  refine wpAnyH_take (i := 21) (v := ?vq22) (by simp; rfl) (by kernel_rfl) (by kernel_rfl) (by kernel_rfl) (fun _ _ _ h => h) (Or.inl ⟨by rfl, ?yq22⟩) (by assumption) ?rq22
  case yq22 => (intro w' hSw; obtain ⟨s0, s1, s2, s3, s4, s5⟩ := hSw; (try dsimp only at s0 s1 s2 s3 s4 s5); go_simp; first | done | with_reducible rfl)
  (try simp only [Act.put, List.setIfInBounds_toArray, List.set_cons_zero, List.set_cons_succ])
  refine wpAnyH_ready (rs := [22]) (by kernel_rfl) (by simp) ?_
  refine AllReadyH.cons (by simp; rfl) (fun K hK => ?_) AllReadyH.nil
  go_simp
  go_wp2
  refine hK.out _ _ ?_ (fun hHeld => ?_)
  · exact MG.after2 hC
  clear hK K
  (try simp only [Act.put, List.setIfInBounds_toArray, List.set_cons_zero, List.set_cons_succ])
  refine wpAnyH_take (i := 23) (v := ?vq24) (by simp; rfl) (by kernel_rfl) (by kernel_rfl) (by kernel_rfl) (fun _ _ _ h => h) (Or.inl ⟨by rfl, ?yq24⟩) (by assumption) ?rq24
  case yq24 => (intro w' hSw; obtain ⟨s0, s1, s2, s3, s4, s5⟩ := hSw; (try dsimp only at s0 s1 s2 s3 s4 s5); go_simp; first | done | with_reducible rfl)
  (try simp only [Act.put, List.setIfInBounds_toArray, List.set_cons_zero, List.set_cons_succ])
  refine wpAnyH_done (by kernel_rfl) ?_ _
  refine NoPanic.normal ?_
  (try go_wp2)
  exact bodyPost_ret (v := .tuple #[mtv R, .bool okk]) (by simp [results, Tryz.results120, mtv, go_sem, *]) rfl ⟨rfl, by exact below_⟩
theorem filter_any (p q : Int) (w : World) : Calls Tryz.prog 120 #[.int .i64 p, .int .i64 q] w fun e w' => e = .returned (mtb (filtI p q)) ∧ Below w.heap.size w w' := by
  cases hd : dirOk p q
  · refine (filter_g p q ⟨0, 0, 0⟩ ⟨0, 0, 0⟩ false w (fun w => direction_f p q w hd)).mono fun e w' ⟨h1, h2⟩ => ⟨?_, h2⟩
    rw [h1, filtI, hd]
    rfl
  · refine (filter_g p q (dirC p q) (dirS p q) true w (fun w => direction_t p q w hd)).mono fun e w' ⟨h1, h2⟩ => ⟨?_, h2⟩
    have hm := m4_eq (timesI (dirC p q) (dirC p q)) (timesI (dirC p q) (dirS p q)) (timesI (dirC p q) (dirS p q)) (timesI (dirS p q) (dirS p q))
    rw [h1, filtI, hd]
    cases timesI (dirC p q) (dirC p q) <;> cases timesI (dirC p q) (dirS p q) <;> cases timesI (dirS p q) (dirS p q) <;> rfl
set_option maxHeartbeats 8000000 in
theorem sfilter_f (p q : Int) (w : World) (hd : dirOk p q = false) : Calls Tryz.prog 95 #[.int .i64 p, .int .i64 q] w fun e w' => e = .returned (mtb none) ∧ Below w.heap.size w w' := by
  go_enter Tryz.func95, Tryz.ntmps95
  go_wp2_with (first | (go_at_call 112; (with_reducible refine (sdirection_f p q _ hd).mono ?_); rintro e w1 ⟨rfl, hb⟩; obtain ⟨hc, hf⟩ := bf hb (w.heap.size) side_; have hs := hb.size; (try simp only [World.size_alloc, World.size_setCell, World.size_drew, World.heap_drewN] at hs); have hl : w.heap.size ≤ w1.heap.size := (by omega); obtain ⟨B, hBe, hBl, hc2, hf2⟩ := bfA hb; (try simp only [World.size_alloc, World.size_setCell, World.size_drew, World.heap_drewN] at hBe); have hB : Below w.heap.size w w1 := bstep (by exact below_) hb side_; clear hs hb))
  exact bodyPost_ret (v := mtb none) (by simp [results, Tryz.results95, go_sem, *]) rfl ⟨rfl, by exact below_⟩
theorem four_o (a b c d : Fr) (ok : Bool) (m : Mt) (w : World) (hm : Hid ((if ok then (⟨a, b, c, d⟩ : Mt) else Z12) = m)) :
    Calls Tryz.prog 113 #[frv a, frv b, frv c, frv d, .bool ok] w fun e w' => e = .returned (.tuple #[mtv m, .bool ok]) ∧ Below w.heap.size w w' := by
  cases ok
  · rw [← hm.out]; exact four_f a b c d w
  · rw [← hm.out]; exact four_t a b c d w
theorem stimes_q (a b f : Fr) (ok : Bool) (w : World) (h : Hid (vN (timesI a b) = f ∧ (timesI a b).isSome = ok)) : Calls Tryz.prog 66 #[frv a, frv b] w fun e w' => e = .returned (.tuple #[frv f, .bool ok]) ∧ Below w.heap.size w w' := by
  rw [← h.out.1, ← h.out.2]; exact stimes_any a b w
set_option maxRecDepth 100000 in
set_option maxHeartbeats 8000000 in
theorem sfilter_t (p q : Int) (c d f1 f2 f3 : Fr) (o1 o2 o3 : Bool) (m : Mt) (w : World) (hd : dirOk p q = true) (hcd : Hid (dirC p q = c ∧ dirS p q = d)) (h1 : Hid (vN (timesI c c) = f1 ∧ (timesI c c).isSome = o1)) (h2 : Hid (vN (timesI c d) = f2 ∧ (timesI c d).isSome = o2)) (h3 : Hid (vN (timesI d d) = f3 ∧ (timesI d d).isSome = o3))
    (hm : Hid ((if o1 && o2 && o3 then (⟨f1, f2, f2, f3⟩ : Mt) else Z12) = m)) :
    Calls Tryz.prog 95 #[.int .i64 p, .int .i64 q] w fun e w' => e = .returned (.tuple #[mtv m, .bool (o1 && o2 && o3)]) ∧ Below w.heap.size w w' := by
  have hdir : ∀ w, Calls Tryz.prog 112 #[.int .i64 p, .int .i64 q] w fun e w' => e = .returned (.tuple #[frv c, frv d, .bool true]) ∧ Below w.heap.size w w' := fun w => by
    rw [← hcd.out.1, ← hcd.out.2]; exact sdirection_t p q w hd
  obtain ⟨ok, hok⟩ : ∃ ok, (o1 && o2 && o3) = ok := ⟨_, rfl⟩
  rw [hok] at hm ⊢
  have hfour : ∀ w, Calls Tryz.prog 113 #[frv f1, frv f2, frv f2, frv f3, .bool ok] w fun e w' => e = .returned (.tuple #[mtv m, .bool ok]) ∧ Below w.heap.size w w' := fun w => four_o f1 f2 f2 f3 ok m w hm
  clear hm
  cases o1 <;> cases o2 <;> cases o3 <;> cases ok <;> (try (cases hok; done))
  all_goals clear hok
  all_goals go_enter Tryz.func95, Tryz.ntmps95
  all_goals go_wp2_with (first | (go_at_call 112; (with_reducible refine (hdir _).mono ?_); rintro e w1 ⟨rfl, hb⟩; obtain ⟨hc, hf⟩ := bf hb (w.heap.size) side_; have hs := hb.size; (try simp only [World.size_alloc, World.size_setCell, World.size_drew, World.heap_drewN] at hs); have hl : w.heap.size ≤ w1.heap.size := (by omega); obtain ⟨B, hBe, hBl, hc2, hf2⟩ := bfA hb; (try simp only [World.size_alloc, World.size_setCell, World.size_drew, World.heap_drewN] at hBe); have hB : Below w.heap.size w w1 := bstep (by exact below_) hb side_; clear hs hb) | (go_at_call 66; (with_reducible refine (stimes_q c c f1 _ _ h1).mono ?_); rintro e w1 ⟨rfl, hb⟩; obtain ⟨hc, hf⟩ := bf hb (w.heap.size) side_; have hs := hb.size; (try simp only [World.size_alloc, World.size_setCell, World.size_drew, World.heap_drewN] at hs); have hl : w.heap.size ≤ w1.heap.size := (by omega); obtain ⟨B, hBe, hBl, hc2, hf2⟩ := bfA hb; (try simp only [World.size_alloc, World.size_setCell, World.size_drew, World.heap_drewN] at hBe); have hB : Below w.heap.size w w1 := bstep (by exact below_) hb side_; clear hs hb) | (go_at_call 66; (with_reducible refine (stimes_q c d f2 _ _ h2).mono ?_); rintro e w1 ⟨rfl, hb⟩; obtain ⟨hc, hf⟩ := bf hb (w.heap.size) side_; have hs := hb.size; (try simp only [World.size_alloc, World.size_setCell, World.size_drew, World.heap_drewN] at hs); have hl : w.heap.size ≤ w1.heap.size := (by omega); obtain ⟨B, hBe, hBl, hc2, hf2⟩ := bfA hb; (try simp only [World.size_alloc, World.size_setCell, World.size_drew, World.heap_drewN] at hBe); have hB : Below w.heap.size w w1 := bstep (by exact below_) hb side_; clear hs hb) | (go_at_call 66; (with_reducible refine (stimes_q d d f3 _ _ h3).mono ?_); rintro e w1 ⟨rfl, hb⟩; obtain ⟨hc, hf⟩ := bf hb (w.heap.size) side_; have hs := hb.size; (try simp only [World.size_alloc, World.size_setCell, World.size_drew, World.heap_drewN] at hs); have hl : w.heap.size ≤ w1.heap.size := (by omega); obtain ⟨B, hBe, hBl, hc2, hf2⟩ := bfA hb; (try simp only [World.size_alloc, World.size_setCell, World.size_drew, World.heap_drewN] at hBe); have hB : Below w.heap.size w w1 := bstep (by exact below_) hb side_; clear hs hb) | (go_at_call 113; (with_reducible refine (hfour _).mono ?_); rintro e w1 ⟨rfl, hb⟩; obtain ⟨hc, hf⟩ := bf hb (w.heap.size) side_; have hs := hb.size; (try simp only [World.size_alloc, World.size_setCell, World.size_drew, World.heap_drewN] at hs); have hl : w.heap.size ≤ w1.heap.size := (by omega); obtain ⟨B, hBe, hBl, hc2, hf2⟩ := bfA hb; (try simp only [World.size_alloc, World.size_setCell, World.size_drew, World.heap_drewN] at hBe); have hB : Below w.heap.size w w1 := bstep (by exact below_) hb side_; clear hs hb))
  iterate 7 (exact bodyPost_ret (v := .tuple #[mtv m, .bool false]) (by simp [results, Tryz.results95, mtv, go_sem, *]) rfl ⟨rfl, by exact below_⟩)
  exact bodyPost_ret (v := .tuple #[mtv m, .bool true]) (by simp [results, Tryz.results95, mtv, go_sem, *]) rfl ⟨rfl, by exact below_⟩
theorem sfilter_any (p q : Int) (w : World) : Calls Tryz.prog 95 #[.int .i64 p, .int .i64 q] w fun e w' => e = .returned (mtb (filtI p q)) ∧ Below w.heap.size w w' := by
  cases hd : dirOk p q
  · refine (sfilter_f p q w hd).mono fun e w' ⟨h1, h2⟩ => ⟨?_, h2⟩
    rw [h1, filtI, hd]
    rfl
  · refine (sfilter_t p q _ _ _ _ _ _ _ _ _ w hd (Lib.hid ⟨rfl, rfl⟩) (Lib.hid ⟨rfl, rfl⟩) (Lib.hid ⟨rfl, rfl⟩) (Lib.hid ⟨rfl, rfl⟩) rfl).mono fun e w' ⟨h1, h2⟩ => ⟨?_, h2⟩
    rw [h1, filtI, hd]
    cases timesI (dirC p q) (dirC p q) <;> cases timesI (dirC p q) (dirS p q) <;> cases timesI (dirS p q) (dirS p q) <;> rfl
end Go.Proofs.YtkdggljioekkhaaGreatDoor
