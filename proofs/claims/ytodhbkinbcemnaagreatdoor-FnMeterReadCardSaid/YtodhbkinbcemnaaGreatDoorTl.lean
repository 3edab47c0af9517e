/-
  The walk of MatFilter (program) at 1 and 0.
-/
import Derived.Test.YtodhbkinbcemnaaGreatDoorPk
import Derived.Test.YtodhbkinbcemnaaGreatDoorPf
import Derived.Test.YtodhbkinbcemnaaGreatDoorPq
namespace Go.Proofs.YtodhbkinbcemnaaGreatDoor
set_option linter.unusedSimpArgs false
set_option linter.unusedVariables false
open Go.RowKit
attribute [local go_sem ↓] Go.wp_at_zero Go.wp_at_succ
def o1 : Fr := ⟨1, 0, 1⟩
theorem dir10 : dirOk 1 0 = true ∧ dirC 1 0 = o1 ∧ dirS 1 0 = z1 := ⟨by decide, by decide +kernel, by decide +kernel⟩
theorem direction_10 (w : World) : Calls Tryz.prog 35 #[.int .i64 1, .int .i64 0] w fun e w' => e = .returned (.tuple #[frv o1, frv z1, .bool true]) ∧ Below w.heap.size w w' := by
  have := direction_t 1 0 w dir10.1
  rwa [dir10.2.1, dir10.2.2] at this
theorem t10 (a b c : Fr) (h : timesI a b = some c) (bs : Nat) (w : World) (hs : SumIs w bs false) : Calls Tryz.prog 37 #[.pointer (some ⟨bs, 0, none⟩), frv a, frv b] w fun e w' => e = .returned (frv c) ∧ SumIs w' bs false ∧ BelX w.heap.size bs w w' :=
  (x_times a b bs w (SumEx.of hs)).mono fun e w' ⟨h1, h2, h3⟩ => ⟨by rw [h1, h]; rfl, (h2 _ hs).sub (by rw [h]; rfl), h3⟩
theorem got_matT (a : Mt) (bs : Nat) (w : World) (hs : SumIs w bs false) : Calls Tryz.prog 36 #[.pointer (some ⟨bs, 0, none⟩), mtv a] w fun e w' => e = .returned (.tuple #[mtv a, .bool true]) ∧ Below w.heap.size w w' :=
  (got_mat a bs w (SumEx.of hs)).mono fun e w' ⟨b, h1, h2, h3⟩ => ⟨by obtain rfl := SumIs.uniq h1 hs; exact h2, h3⟩
structure MF (w : World) (b6 bs : Nat) (W : World) : Prop where
  B : Below w.heap.size w W
  s : SumIs W bs false
  r : Blk W w.heap.size (mtc ⟨zK, zK, zK, zK⟩) 36
  a : Blk W b6 (frc o1) 25
  b : Blk W (b6 + 1) (frc z1) 25
  l : w.heap.size < b6 ∧ b6 + 1 < bs
section
variable {w W W' : World} {b6 bs : Nat}
theorem MF.drew (h : MF w b6 bs W) : MF w b6 bs W.drew := ⟨h.B.drew, h.s.drew, h.r, h.a, h.b, h.l⟩
theorem MF.step (h : MF w b6 bs W) (X : BelX W.heap.size bs W W') (s : SumIs W' bs false) : MF w b6 bs W' := by
  have l1 := (Array.getElem?_eq_some_iff.1 h.r).1
  have l2 := (Array.getElem?_eq_some_iff.1 h.a).1
  have l3 := (Array.getElem?_eq_some_iff.1 h.b).1
  obtain ⟨l4, l5⟩ := h.l
  have l6 := h.B.size
  exact ⟨((BelX.of h.B).trans (X.mono l6)).below (by omega), s, (X.block _ l1 (by omega)).trans h.r, (X.block _ l2 (by omega)).trans h.a, (X.block _ l3 (by omega)).trans h.b, h.l⟩
theorem blk_fr {ty : TypeId} {b : Nat} {f : Fr} (h : Blk W b (frc f) ty) : W.cell? ⟨b, 0, none⟩ = some (.int .i64 f.re) ∧ W.cell? ⟨b, 1, none⟩ = some (.int .i64 f.im) ∧ W.cell? ⟨b, 2, none⟩ = some (.int .i64 f.den) := by
  refine ⟨?_, ?_, ?_⟩ <;> simp [World.cell?, h, frc]
theorem MF.cells (h : MF w b6 bs W) : W.cell? ⟨b6, 0, none⟩ = some (.int .i64 (o1).re) ∧ W.cell? ⟨b6, 1, none⟩ = some (.int .i64 (o1).im) ∧ W.cell? ⟨b6, 2, none⟩ = some (.int .i64 (o1).den) ∧ W.cell? ⟨b6 + 1, 0, none⟩ = some (.int .i64 (z1).re) ∧ W.cell? ⟨b6 + 1, 1, none⟩ = some (.int .i64 (z1).im) ∧ W.cell? ⟨b6 + 1, 2, none⟩ = some (.int .i64 (z1).den) :=
  ⟨(blk_fr h.a).1, (blk_fr h.a).2.1, (blk_fr h.a).2.2, blk_fr h.b⟩
theorem MF.after (h : MF w b6 bs W) (v0 v1 v2 v3 v4 v5 v6 v7 v8 v9 v10 v11 : Value) : (fun w' => w'.cell? ⟨b6, 0, none⟩ = some (.int .i64 (o1).re) ∧ w'.cell? ⟨b6, 1, none⟩ = some (.int .i64 (o1).im) ∧ w'.cell? ⟨b6, 2, none⟩ = some (.int .i64 (o1).den) ∧ w'.cell? ⟨b6 + 1, 0, none⟩ = some (.int .i64 (z1).re) ∧ w'.cell? ⟨b6 + 1, 1, none⟩ = some (.int .i64 (z1).im) ∧ w'.cell? ⟨b6 + 1, 2, none⟩ = some (.int .i64 (z1).den)) ((((((((((((W.setCell ⟨w.heap.size, 0, none⟩ v0).setCell ⟨w.heap.size, 1, none⟩ v1).setCell ⟨w.heap.size, 2, none⟩ v2).setCell ⟨w.heap.size, 3, none⟩ v3).setCell ⟨w.heap.size, 4, none⟩ v4).setCell ⟨w.heap.size, 5, none⟩ v5).setCell ⟨w.heap.size, 6, none⟩ v6).setCell ⟨w.heap.size, 7, none⟩ v7).setCell ⟨w.heap.size, 8, none⟩ v8).setCell ⟨w.heap.size, 9, none⟩ v9).setCell ⟨w.heap.size, 10, none⟩ v10).setCell ⟨w.heap.size, 11, none⟩ v11) := by
  obtain ⟨c0, c1, c2, d0, d1, d2⟩ := h.cells
  have hl := h.l
  have key : ∀ b o : Nat, b ≠ w.heap.size → ((((((((((((W.setCell ⟨w.heap.size, 0, none⟩ v0).setCell ⟨w.heap.size, 1, none⟩ v1).setCell ⟨w.heap.size, 2, none⟩ v2).setCell ⟨w.heap.size, 3, none⟩ v3).setCell ⟨w.heap.size, 4, none⟩ v4).setCell ⟨w.heap.size, 5, none⟩ v5).setCell ⟨w.heap.size, 6, none⟩ v6).setCell ⟨w.heap.size, 7, none⟩ v7).setCell ⟨w.heap.size, 8, none⟩ v8).setCell ⟨w.heap.size, 9, none⟩ v9).setCell ⟨w.heap.size, 10, none⟩ v10).setCell ⟨w.heap.size, 11, none⟩ v11).cell? ⟨b, o, none⟩ = W.cell? ⟨b, o, none⟩ := fun b o hb => by
    refine World.cell?_of_block ?_
    exact (Below.heap_setCell _ _ _ b hb).trans ((Below.heap_setCell _ _ _ b hb).trans ((Below.heap_setCell _ _ _ b hb).trans ((Below.heap_setCell _ _ _ b hb).trans ((Below.heap_setCell _ _ _ b hb).trans ((Below.heap_setCell _ _ _ b hb).trans ((Below.heap_setCell _ _ _ b hb).trans ((Below.heap_setCell _ _ _ b hb).trans ((Below.heap_setCell _ _ _ b hb).trans ((Below.heap_setCell _ _ _ b hb).trans ((Below.heap_setCell _ _ _ b hb).trans ((Below.heap_setCell _ _ _ b hb))))))))))))
  have n1 : b6 ≠ w.heap.size := by omega
  have n2 : b6 + 1 ≠ w.heap.size := by omega
  exact ⟨(key _ _ n1).trans c0, (key _ _ n1).trans c1, (key _ _ n1).trans c2, (key _ _ n2).trans d0, (key _ _ n2).trans d1, (key _ _ n2).trans d2⟩
theorem MF.out (h : MF w b6 bs W) : (∀ o, o < 12 → W.cell? ⟨w.heap.size, o, none⟩ = some (.int .i64 0)) ∧ ∀ o, W.frozen? ⟨w.heap.size, o, none⟩ = false := by
  refine ⟨fun o ho => ?_, fun o => ?_⟩
  · have : (mtc ⟨zK, zK, zK, zK⟩)[o]? = some (.int .i64 0) := by
      match o, ho with
      | 0, _ => rfl | 1, _ => rfl | 2, _ => rfl | 3, _ => rfl | 4, _ => rfl | 5, _ => rfl | 6, _ => rfl | 7, _ => rfl | 8, _ => rfl | 9, _ => rfl | 10, _ => rfl | 11, _ => rfl
    rw [cell_of_row W w.heap.size o _ _ _ h.r]; exact this
  · have := h.r
    simp [World.frozen?, this]
end
set_option maxRecDepth 100000 in
set_option maxHeartbeats 4000000 in
theorem filter_10 (w : World) : Calls Tryz.prog 11 #[.int .i64 1, .int .i64 0] w fun e w' => e = .returned (mtb (some filtM)) ∧ Below w.heap.size w w' := by
  go_enter Tryz.func11, Tryz.ntmps11
  go_upto_region 3 with (first | (go_at_call 35; (with_reducible refine (direction_10 _).mono ?_); rintro e w1 ⟨rfl, hb1⟩; have HB1 := Lib.hid hb1; clear hb1) | (go_at_call 26; (with_reducible refine (x_need true (w1.heap.size + 1 + 1) _ (SumEx.of (SumIs.new' (by simp)))).mono ?_); rintro e w2 ⟨rfl, hu, hx⟩; have HS2 := Lib.hid (hu false (SumIs.new' (by simp))); have HX2 := Lib.hid hx; clear hu hx))
  have hb1 := HB1.out
  have hs2 := HS2.out
  have hx2 := HX2.out
  clear HB1 HS2 HX2
  have z1' := hb1.size
  rw [World.size_alloc] at z1'
  have hM : MF w w1.heap.size (w1.heap.size + 1 + 1) w2 := by
    obtain ⟨W3, h3⟩ : ∃ W, W = ((w1.alloc (.cells (frc o1) 25)).alloc (.cells (frc z1) 25)).alloc (.cells #[.bool false] 64) := ⟨_, rfl⟩
    have z3 : W3.heap.size = w1.heap.size + 1 + 1 + 1 := by rw [h3]; simp
    have hx3 : BelX W3.heap.size (w1.heap.size + 1 + 1) W3 w2 := by rw [h3]; exact hx2
    have r3 : Blk W3 w.heap.size (mtc ⟨zK, zK, zK, zK⟩) 36 := by
      rw [h3]
      refine (Below.heap_alloc _ _ _ (by simp; omega)).trans ((Below.heap_alloc _ _ _ (by simp; omega)).trans ((Below.heap_alloc _ _ _ (by omega)).trans ((hb1.block _ (by simp)).trans (heap_alloc_last w _))))
    have a3 : Blk W3 w1.heap.size (frc o1) 25 := by
      rw [h3]
      exact (Below.heap_alloc _ _ _ (by simp; omega)).trans ((Below.heap_alloc _ _ _ (by simp)).trans (heap_alloc_last w1 _))
    have b3 : Blk W3 (w1.heap.size + 1) (frc z1) 25 := by
      rw [h3]
      refine (Below.heap_alloc _ _ _ (by simp)).trans ?_
      have := heap_alloc_last (w1.alloc (.cells (frc o1) 25)) (.cells (frc z1) 25)
      rwa [World.size_alloc] at this
    have B3 : Below w.heap.size w W3 := by
      rw [h3]
      have b0 : Below w.heap.size w w1 := bstep ((Below.refl _ _).alloc (Nat.le_refl _) _) hb1 (by simp)
      exact ((b0.alloc (by omega) _).alloc (by simp; omega) _).alloc (by simp; omega) _
    exact ⟨((BelX.of B3).trans (hx3.mono (by omega))).below (by omega), hs2, (hx3.block _ (by omega) (by omega)).trans r3, (hx3.block _ (by omega) (by omega)).trans a3, (hx3.block _ (by omega) (by omega)).trans b3, by omega⟩
  clear hs2 hx2 hb1
  have hn1 : ¬ w.heap.size = w1.heap.size := by omega
  have hn2 : ¬ w.heap.size = w1.heap.size + 1 := by omega
  go_region_held3 (fun w' => w'.cell? ⟨w1.heap.size, 0, none⟩ = some (.int .i64 (o1).re) ∧ w'.cell? ⟨w1.heap.size, 1, none⟩ = some (.int .i64 (o1).im) ∧ w'.cell? ⟨w1.heap.size, 2, none⟩ = some (.int .i64 (o1).den) ∧ w'.cell? ⟨w1.heap.size + 1, 0, none⟩ = some (.int .i64 (z1).re) ∧ w'.cell? ⟨w1.heap.size + 1, 1, none⟩ = some (.int .i64 (z1).im) ∧ w'.cell? ⟨w1.heap.size + 1, 2, none⟩ = some (.int .i64 (z1).den)) ((first | (refine MF.cells (w := w) (bs := (w1.heap.size + 1 + 1)) ?_; (first | (with_reducible assumption) | (with_reducible exact MF.drew (by with_reducible assumption)))) | exact MF.after (by with_reducible assumption) _ _ _ _ _ _ _ _ _ _ _ _)) (first | (go_at_call 37; (with_reducible refine (t10 o1 o1 o1 (by decide +kernel) (w1.heap.size + 1 + 1) _ (MF.s (w := w) (b6 := w1.heap.size) (by (first | (with_reducible assumption) | (with_reducible exact MF.drew (by with_reducible assumption)))))).mono ?_); rintro e wd ⟨rfl, hu, hx⟩; have hC : MF w w1.heap.size (w1.heap.size + 1 + 1) wd := MF.step (by (first | (with_reducible assumption) | (with_reducible exact MF.drew (by with_reducible assumption)))) hx hu; clear hu hx) | (go_at_call 37; (with_reducible refine (t10 o1 z1 z1 (by decide +kernel) (w1.heap.size + 1 + 1) _ (MF.s (w := w) (b6 := w1.heap.size) (by (first | (with_reducible assumption) | (with_reducible exact MF.drew (by with_reducible assumption)))))).mono ?_); rintro e wd ⟨rfl, hu, hx⟩; have hC : MF w w1.heap.size (w1.heap.size + 1 + 1) wd := MF.step (by (first | (with_reducible assumption) | (with_reducible exact MF.drew (by with_reducible assumption)))) hx hu; clear hu hx) | (go_at_call 37; (with_reducible refine (t10 z1 z1 z1 (by decide +kernel) (w1.heap.size + 1 + 1) _ (MF.s (w := w) (b6 := w1.heap.size) (by (first | (with_reducible assumption) | (with_reducible exact MF.drew (by with_reducible assumption)))))).mono ?_); rintro e wd ⟨rfl, hu, hx⟩; have hC : MF w w1.heap.size (w1.heap.size + 1 + 1) wd := MF.step (by (first | (with_reducible assumption) | (with_reducible exact MF.drew (by with_reducible assumption)))) hx hu; clear hu hx) | (go_at_call 36; (with_reducible refine (got_matT ⟨o1, z1, z1, z1⟩ (w1.heap.size + 1 + 1) _ (MF.s (w := w) (b6 := w1.heap.size) (by (first | (with_reducible assumption) | (with_reducible exact MF.drew (by with_reducible assumption)))))).mono ?_); rintro e wd ⟨rfl, hb⟩; have hC : MF w w1.heap.size (w1.heap.size + 1 + 1) wd := MF.step (by (first | (with_reducible assumption) | (with_reducible exact MF.drew (by with_reducible assumption)))) (BelX.of hb) (SumIs.below (MF.s (w := w) (b6 := w1.heap.size) (by (first | (with_reducible assumption) | (with_reducible exact MF.drew (by with_reducible assumption))))) hb (SumIs.lt (MF.s (w := w) (b6 := w1.heap.size) (by (first | (with_reducible assumption) | (with_reducible exact MF.drew (by with_reducible assumption))))))); clear hb; obtain ⟨ho1, ho2⟩ := hC.out; have hB := hC.B; have k0 := ho1 0 (by decide); have k1 := ho1 1 (by decide); have k2 := ho1 2 (by decide); have k3 := ho1 3 (by decide); have k4 := ho1 4 (by decide); have k5 := ho1 5 (by decide); have k6 := ho1 6 (by decide); have k7 := ho1 7 (by decide); have k8 := ho1 8 (by decide); have k9 := ho1 9 (by decide); have k10 := ho1 10 (by decide); have k11 := ho1 11 (by decide); clear ho1))
  (try go_wp2)
  exact bodyPost_ret (v := mtb (some filtM)) (by simp [results, Tryz.results11, go_sem, *]; exact ⟨rfl, rfl, rfl, rfl, rfl, rfl, rfl, rfl, rfl, rfl, rfl, rfl⟩) rfl ⟨rfl, by exact below_⟩
end Go.Proofs.YtodhbkinbcemnaaGreatDoor
