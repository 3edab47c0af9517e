/-
  The walks of the drawers of vectors, alone and with a fibre.
-/
import Derived.Test.YtiagnnmnaakmoaaDoorDf
import Derived.Test.YtiagnnmnaakmoaaDoorGd
namespace Go.Proofs.YtiagnnmnaakmoaaDoor
set_option linter.unusedSimpArgs false
set_option linter.unusedVariables false
open Go.RowKit
theorem JnF.belX {w w' : World} {b br B : Nat} {m : Jn} (h : JnF w b m) (hb : BelX B br w w') (hlt : b < B) (hne : b ≠ br) : JnF w' b m := by
  have e := hb.block b hlt hne
  exact ⟨h.1.same fun o => World.cell?_of_block (w := w) e, fun o => (World.frozen?_of_block (w := w) e).trans (h.2 o)⟩
/-- A fraction lies at the head of a block. -/
def FrAt (w : World) (b : Nat) (m : Fr) : Prop := w.cell? ⟨b, 0, none⟩ = some (.int .i64 m.re) ∧ w.cell? ⟨b, 1, none⟩ = some (.int .i64 m.im) ∧ w.cell? ⟨b, 2, none⟩ = some (.int .i64 m.den)
theorem FrAt.same {w w' : World} {b : Nat} {m : Fr} (h : FrAt w b m) (hc : ∀ o, w'.cell? ⟨b, o, none⟩ = w.cell? ⟨b, o, none⟩) : FrAt w' b m := by
  unfold FrAt at h ⊢
  simp only [hc]
  exact h
theorem FrAt.lt {w : World} {b : Nat} {m : Fr} (h : FrAt w b m) : b < w.heap.size := World.block_lt_of_cell? w _ h.1
theorem FrAt.below {w w' : World} {b B : Nat} {m : Fr} (h : FrAt w b m) (hb : Below B w w') (hlt : b < B) : FrAt w' b m := h.same fun o => hb.cell (p := ⟨b, o, none⟩) hlt
theorem FrAt.alloc {w : World} {b : Nat} {m : Fr} (h : FrAt w b m) (o : Obj) : FrAt (w.alloc o) b m := h.below ((Below.refl _ _).alloc (Nat.le_refl _) o) h.lt
theorem FrAt.new (w : World) (m : Fr) (t : TypeId) : FrAt (w.alloc (.cells #[.int .i64 m.re, .int .i64 m.im, .int .i64 m.den] t)) w.heap.size m :=
  ⟨World.cell?_alloc_at _ _ _ _ rfl, World.cell?_alloc_at _ _ _ _ rfl, World.cell?_alloc_at _ _ _ _ rfl⟩
def FrF (w : World) (b : Nat) (m : Fr) : Prop := FrAt w b m ∧ FreeB w b
theorem FrF.alloc {w : World} {b : Nat} {m : Fr} (h : FrF w b m) (o : Obj) : FrF (w.alloc o) b m := ⟨h.1.alloc o, h.2.alloc h.1.lt o⟩
theorem FrF.new (w : World) (m : Fr) (t : TypeId) : FrF (w.alloc (.cells #[.int .i64 m.re, .int .i64 m.im, .int .i64 m.den] t)) w.heap.size m := ⟨FrAt.new w m t, FreeB.new w _ _⟩
theorem FrF.belX {w w' : World} {b br B : Nat} {m : Fr} (h : FrF w b m) (hb : BelX B br w w') (hlt : b < B) (hne : b ≠ br) : FrF w' b m := by
  have e := hb.block b hlt hne
  exact ⟨h.1.same fun o => World.cell?_of_block (w := w) e, fun o => (World.frozen?_of_block (w := w) e).trans (h.2 o)⟩
set_option maxRecDepth 100000 in
set_option maxHeartbeats 4000000 in
theorem djones_any (br : Nat) (w : World) (hr : RdEx 17 w br) :
    Calls Tryd.prog 52 #[.pointer (some ⟨br, 0, none⟩)] w fun e w' => ∃ x : Jn, e = .returned (jnv x) ∧ Drw 17 br w w' ∧ True := by
  obtain ⟨k, hr, hmin, hk⟩ := hr.min
  have hlt := hr.lt
  have hX0 : BelX w.heap.size br w (w.alloc (.cells #[.int .i64 zJ.x.re, .int .i64 zJ.x.im, .int .i64 zJ.x.den, .int .i64 zJ.y.re, .int .i64 zJ.y.im, .int .i64 zJ.y.den] 33)) := (BelX.refl _ _ _).alloc (Nat.le_refl _) _
  go_enter Tryd.func52, Tryd.ntmps52
  go_wp2_with (go_at_call 75; (with_reducible refine (dfrac_any br _ (by exact rd_)).mono ?_); rintro e w1 ⟨x, rfl, ⟨hu, hx⟩, -⟩; refine Hid.out ?_)
  refine Lib.hid ?_
  have hr1 := hu _ (hr.alloc _)
  have hJ : JnF w1 w.heap.size zJ := (JnF.new w zJ 33).belX hx (by simp) (by omega)
  have hX : BelX w.heap.size br w w1 := BelX.step hX0 hx (by simp)
  have hz1 := hX.size
  have hj1 := hJ.1.lt
  have hbx := FrF.new w1 x 31
  have hr1 := hr1.alloc (.cells #[.int .i64 x.re, .int .i64 x.im, .int .i64 x.den] 31)
  have hJ := hJ.alloc (.cells #[.int .i64 x.re, .int .i64 x.im, .int .i64 x.den] 31)
  have hX : BelX w.heap.size br w (w1.alloc (.cells #[.int .i64 x.re, .int .i64 x.im, .int .i64 x.den] 31)) := hX.alloc hz1 _
  clear hu hx hX0 hr
  go_wp2_with (go_at_call 75; (with_reducible refine (dfrac_any br _ (RdEx.of hr1 (by omega))).mono ?_); rintro e w2 ⟨y, rfl, ⟨hu, hx⟩, -⟩; refine Hid.out ?_)
  refine Lib.hid ?_
  have hr2 := hu _ hr1
  have hJ : JnF w2 w.heap.size zJ := hJ.belX hx (by simp; omega) (by omega)
  have hbx : FrF w2 w1.heap.size x := hbx.belX hx (by simp) (by omega)
  have hX : BelX w.heap.size br w w2 := BelX.step hX hx (by simp; omega)
  have hz2 := hX.size
  have hbl := hbx.1.lt
  have hr2 := hr2.alloc (.cells #[.int .i64 y.re, .int .i64 y.im, .int .i64 y.den] 31)
  have hby := FrF.new w2 y 31
  have hJ := hJ.alloc (.cells #[.int .i64 y.re, .int .i64 y.im, .int .i64 y.den] 31)
  have hbx := hbx.alloc (.cells #[.int .i64 y.re, .int .i64 y.im, .int .i64 y.den] 31)
  have hX : BelX w.heap.size br w (w2.alloc (.cells #[.int .i64 y.re, .int .i64 y.im, .int .i64 y.den] 31)) := hX.alloc hz2 _
  clear hu hx hr1
  go_wp2_with (go_at_call 50; (with_reducible refine (pick_any 10 br _ (RdEx.of hr2 (by omega)) (by omega) (by omega)).mono ?_); rintro e w3 ⟨n, rfl, ⟨hu, hx⟩, hn⟩; refine Hid.out ?_)
  refine Lib.hid ?_
  have hr3 := (hu _ hr2).mono (k' := k + 17) (by omega)
  have hJ : JnF w3 w.heap.size zJ := hJ.belX hx (by simp; omega) (by omega)
  have hbx : FrF w3 w1.heap.size x := hbx.belX hx (by simp; omega) (by omega)
  have hby : FrF w3 w2.heap.size y := hby.belX hx (by simp) (by omega)
  have hX : BelX w.heap.size br w w3 := BelX.step hX hx (by simp; omega)
  have hz3 := hX.size
  have hyl := hby.1.lt
  obtain ⟨⟨z0, z1, z2, z3, z4, z5⟩, zf⟩ := hJ
  obtain ⟨⟨x0, x1, x2⟩, xf⟩ := hbx
  obtain ⟨⟨y0, y1, y2⟩, yf⟩ := hby
  unfold FreeB at zf xf yf
  clear hu hx hr2 hn
  go_wp2
  · (exact bodyPost_ret (v := jnv ⟨⟨0, 0, 1⟩, y⟩) (by simp [results, Tryd.results52, go_sem, *]) rfl ⟨_, rfl, drw_mk hmin (by exact rd_) (by exact belx_), trivial⟩)
  · (exact bodyPost_ret (v := jnv ⟨x, ⟨0, 0, 1⟩⟩) (by simp [results, Tryd.results52, go_sem, *]) rfl ⟨_, rfl, drw_mk hmin (by exact rd_) (by exact belx_), trivial⟩)
  · (exact bodyPost_ret (v := jnv ⟨x, y⟩) (by simp [results, Tryd.results52, go_sem, *]) rfl ⟨_, rfl, drw_mk hmin (by exact rd_) (by exact belx_), trivial⟩)
end Go.Proofs.YtiagnnmnaakmoaaDoor
