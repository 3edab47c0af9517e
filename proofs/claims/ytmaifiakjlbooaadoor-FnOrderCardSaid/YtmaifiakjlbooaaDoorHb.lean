/-
  The walks of the drawers of vectors, alone and with a fibre.
-/
import Derived.Test.YtmaifiakjlbooaaDoorDf
import Derived.Test.YtmaifiakjlbooaaDoorGd
namespace Go.Proofs.YtmaifiakjlbooaaDoor
set_option linter.unusedSimpArgs false
set_option linter.unusedVariables false
open Go.RowKit
theorem JnF.belX {w w' : World} {b br B : Nat} {m : Jn} (h : JnF w b m) (hb : BelX B br w w') (hlt : b < B) (hne : b ≠ br) : JnF w' b m := by
  have e := hb.block b hlt hne
  exact ⟨h.1.same fun o => World.cell?_of_block (w := w) e, fun o => (World.frozen?_of_block (w := w) e).trans (h.2 o)⟩
/-- A fraction lies at the head of a block. -/
def FrAt (w : World) (b : Nat) (m : Fr) : Prop := w.cell? ⟨b, 0, none⟩ = some (.int .i64 m.re) ∧ w.cell? ⟨b, 1, none⟩ = some (.int .i64 m.im) ∧ w.cell? ⟨b, 2, none⟩ = some (.int .i64 m.den)
theorem FrAt.same {w w' : World} {b : Nat} {m : Fr} (h : FrAt w b m) (hc : ∀ o, w'.cell? ⟨b, o, none⟩ = w.cell? ⟨b, o, none⟩) : FrAt w' b m := by
  unfold FrAt at h ⊢
  simp only [hc]
  exact h
theorem FrAt.lt {w : World} {b : Nat} {m : Fr} (h : FrAt w b m) : b < w.heap.size := World.block_lt_of_cell? w _ h.1
theorem FrAt.below {w w' : World} {b B : Nat} {m : Fr} (h : FrAt w b m) (hb : Below B w w') (hlt : b < B) : FrAt w' b m := h.same fun o => hb.cell (p := ⟨b, o, none⟩) hlt
theorem FrAt.alloc {w : World} {b : Nat} {m : Fr} (h : FrAt w b m) (o : Obj) : FrAt (w.alloc o) b m := h.below ((Below.refl _ _).alloc (Nat.le_refl _) o) h.lt
theorem FrAt.new (w : World) (m : Fr) (t : TypeId) : FrAt (w.alloc (.cells #[.int .i64 m.re, .int .i64 m.im, .int .i64 m.den] t)) w.heap.size m :=
  ⟨World.cell?_alloc_at _ _ _ _ rfl, World.cell?_alloc_at _ _ _ _ rfl, World.cell?_alloc_at _ _ _ _ rfl⟩
def FrF (w : World) (b : Nat) (m : Fr) : Prop := FrAt w b m ∧ FreeB w b
theorem FrF.alloc {w : World} {b : Nat} {m : Fr} (h : FrF w b m) (o : Obj) : FrF (w.alloc o) b m := ⟨h.1.alloc o, h.2.alloc h.1.lt o⟩
theorem FrF.new (w : World) (m : Fr) (t : TypeId) : FrF (w.alloc (.cells #[.int .i64 m.re, .int .i64 m.im, .int .i64 m.den] t)) w.heap.size m := ⟨FrAt.new w m t, FreeB.new w _ _⟩
theorem FrF.belX {w w' : World} {b br B : Nat} {m : Fr} (h : FrF w b m) (hb : BelX B br w w') (hlt : b < B) (hne : b ≠ br) : FrF w' b m := by
  have e := hb.block b hlt hne
  exact ⟨h.1.same fun o => World.cell?_of_block (w := w) e, fun o => (World.frozen?_of_block (w := w) e).trans (h.2 o)⟩
set_option maxRecDepth 100000 in
set_option maxHeartbeats 4000000 in
theorem djones_any (br : Nat) (w : World) (hr : RdEx 17 w br) :
    Calls Tryd.prog 88 #[.pointer (some ⟨br, 0, none⟩)] w fun e w' => ∃ x : Jn, e = .returned (jnv x) ∧ Drw 17 br w w' ∧ True := by
  obtain ⟨k, hr, hmin, hk⟩ := hr.min
  have hlt := hr.lt
  have hX0 : BelX w.heap.size br w (w.alloc (.cells #[.int .i64 zJ.x.re, .int .i64 zJ.x.im, .int .i64 zJ.x.den, .int .i64 zJ.y.re, .int .i64 zJ.y.im, .int .i64 zJ.y.den] 54)) := (BelX.refl _ _ _).alloc (Nat.le_refl _) _
  go_enter Tryd.func88, Tryd.ntmps88
  go_wp2_with (go_at_call 108; (with_reducible refine (dfrac_any br _ (by (repeat' (first | (with_reducible assumption) | (with_reducible exact RdIs.mono ‹RdIs _ _ _› (by omega)) | (with_reducible apply RdIs.alloc) | (with_reducible exact RdEx.of ‹RdIs _ _ _› (by omega)) | (with_reducible apply RdEx.alloc) | (with_reducible apply RdIs.far) | (with_reducible apply RdEx.far) | (with_reducible apply RdIs.drewN) | (with_reducible apply RdIs.drew) | (with_reducible apply RdEx.drewN) | (with_reducible apply RdEx.drew) | omega | (simp; done) | (simp; omega))))).mono ?_); rintro e w1 ⟨x, rfl, ⟨hu, hx⟩, -⟩; refine Hid.out ?_)
  refine Lib.hid ?_
  have hr1 := hu _ (hr.alloc _)
  have hJ : JnF w1 w.heap.size zJ := (JnF.new w zJ 54).belX hx (by simp) (by omega)
  have hX : BelX w.heap.size br w w1 := BelX.step hX0 hx (by simp)
  have hz1 := hX.size
  have hj1 := hJ.1.lt
  have hbx := FrF.new w1 x 29
  have hr1 := hr1.alloc (.cells #[.int .i64 x.re, .int .i64 x.im, .int .i64 x.den] 29)
  have hJ := hJ.alloc (.cells #[.int .i64 x.re, .int .i64 x.im, .int .i64 x.den] 29)
  have hX : BelX w.heap.size br w (w1.alloc (.cells #[.int .i64 x.re, .int .i64 x.im, .int .i64 x.den] 29)) := hX.alloc hz1 _
  clear hu hx hX0 hr
  go_wp2_with (go_at_call 108; (with_reducible refine (dfrac_any br _ (RdEx.of hr1 (by omega))).mono ?_); rintro e w2 ⟨y, rfl, ⟨hu, hx⟩, -⟩; refine Hid.out ?_)
  refine Lib.hid ?_
  have hr2 := hu _ hr1
  have hJ : JnF w2 w.heap.size zJ := hJ.belX hx (by simp; omega) (by omega)
  have hbx : FrF w2 w1.heap.size x := hbx.belX hx (by simp) (by omega)
  have hX : BelX w.heap.size br w w2 := BelX.step hX hx (by simp; omega)
  have hz2 := hX.size
  have hbl := hbx.1.lt
  have hr2 := hr2.alloc (.cells #[.int .i64 y.re, .int .i64 y.im, .int .i64 y.den] 29)
  have hby := FrF.new w2 y 29
  have hJ := hJ.alloc (.cells #[.int .i64 y.re, .int .i64 y.im, .int .i64 y.den] 29)
  have hbx := hbx.alloc (.cells #[.int .i64 y.re, .int .i64 y.im, .int .i64 y.den] 29)
  have hX : BelX w.heap.size br w (w2.alloc (.cells #[.int .i64 y.re, .int .i64 y.im, .int .i64 y.den] 29)) := hX.alloc hz2 _
  clear hu hx hr1
  go_wp2_with (go_at_call 50; (with_reducible refine (pick_any 10 br _ (RdEx.of hr2 (by omega)) (by omega) (by omega)).mono ?_); rintro e w3 ⟨n, rfl, ⟨hu, hx⟩, hn⟩; refine Hid.out ?_)
  refine Lib.hid ?_
  have hr3 := (hu _ hr2).mono (k' := k + 17) (by omega)
  have hJ : JnF w3 w.heap.size zJ := hJ.belX hx (by simp; omega) (by omega)
  have hbx : FrF w3 w1.heap.size x := hbx.belX hx (by simp; omega) (by omega)
  have hby : FrF w3 w2.heap.size y := hby.belX hx (by simp) (by omega)
  have hX : BelX w.heap.size br w w3 := BelX.step hX hx (by simp; omega)
  have hz3 := hX.size
  have hyl := hby.1.lt
  obtain ⟨⟨z0, z1, z2, z3, z4, z5⟩, zf⟩ := hJ
  obtain ⟨⟨x0, x1, x2⟩, xf⟩ := hbx
  obtain ⟨⟨y0, y1, y2⟩, yf⟩ := hby
  unfold FreeB at zf xf yf
  clear hu hx hr2 hn
  go_wp2
  · (exact bodyPost_ret (v := jnv ⟨⟨0, 0, 1⟩, y⟩) (by simp [results, Tryd.results88, go_sem, *]) rfl ⟨_, rfl, drw_mk hmin (by (repeat' (first | (with_reducible assumption) | (with_reducible exact RdIs.mono ‹RdIs _ _ _› (by omega)) | (with_reducible apply RdIs.alloc) | (with_reducible exact RdEx.of ‹RdIs _ _ _› (by omega)) | (with_reducible apply RdEx.alloc) | (with_reducible apply RdIs.far) | (with_reducible apply RdEx.far) | (with_reducible apply RdIs.drewN) | (with_reducible apply RdIs.drew) | (with_reducible apply RdEx.drewN) | (with_reducible apply RdEx.drew) | omega | (simp; done) | (simp; omega)))) (by (repeat' (first | (with_reducible exact BelX.refl _ _ _) | (with_reducible assumption) | (with_reducible exact BelX.of ‹_›) | (with_reducible refine BelX.setCell ?_ (by first | omega | (simp; done) | (simp; omega)) _) | (with_reducible refine BelX.setSum ?_ _) | (with_reducible refine BelX.alloc ?_ (by first | omega | (simp; done) | (simp; omega)) _) | (with_reducible refine BelX.drewN ?_ _) | (with_reducible refine BelX.drew ?_)))), trivial⟩)
  · (exact bodyPost_ret (v := jnv ⟨x, ⟨0, 0, 1⟩⟩) (by simp [results, Tryd.results88, go_sem, *]) rfl ⟨_, rfl, drw_mk hmin (by (repeat' (first | (with_reducible assumption) | (with_reducible exact RdIs.mono ‹RdIs _ _ _› (by omega)) | (with_reducible apply RdIs.alloc) | (with_reducible exact RdEx.of ‹RdIs _ _ _› (by omega)) | (with_reducible apply RdEx.alloc) | (with_reducible apply RdIs.far) | (with_reducible apply RdEx.far) | (with_reducible apply RdIs.drewN) | (with_reducible apply RdIs.drew) | (with_reducible apply RdEx.drewN) | (with_reducible apply RdEx.drew) | omega | (simp; done) | (simp; omega)))) (by (repeat' (first | (with_reducible exact BelX.refl _ _ _) | (with_reducible assumption) | (with_reducible exact BelX.of ‹_›) | (with_reducible refine BelX.setCell ?_ (by first | omega | (simp; done) | (simp; omega)) _) | (with_reducible refine BelX.setSum ?_ _) | (with_reducible refine BelX.alloc ?_ (by first | omega | (simp; done) | (simp; omega)) _) | (with_reducible refine BelX.drewN ?_ _) | (with_reducible refine BelX.drew ?_)))), trivial⟩)
  · (exact bodyPost_ret (v := jnv ⟨x, y⟩) (by simp [results, Tryd.results88, go_sem, *]) rfl ⟨_, rfl, drw_mk hmin (by (repeat' (first | (with_reducible assumption) | (with_reducible exact RdIs.mono ‹RdIs _ _ _› (by omega)) | (with_reducible apply RdIs.alloc) | (with_reducible exact RdEx.of ‹RdIs _ _ _› (by omega)) | (with_reducible apply RdEx.alloc) | (with_reducible apply RdIs.far) | (with_reducible apply RdEx.far) | (with_reducible apply RdIs.drewN) | (with_reducible apply RdIs.drew) | (with_reducible apply RdEx.drewN) | (with_reducible apply RdEx.drew) | omega | (simp; done) | (simp; omega)))) (by (repeat' (first | (with_reducible exact BelX.refl _ _ _) | (with_reducible assumption) | (with_reducible exact BelX.of ‹_›) | (with_reducible refine BelX.setCell ?_ (by first | omega | (simp; done) | (simp; omega)) _) | (with_reducible refine BelX.setSum ?_ _) | (with_reducible refine BelX.alloc ?_ (by first | omega | (simp; done) | (simp; omega)) _) | (with_reducible refine BelX.drewN ?_ _) | (with_reducible refine BelX.drew ?_)))), trivial⟩)
set_option maxRecDepth 100000 in
set_option maxHeartbeats 4000000 in
theorem drawFibreRun_any (A : Option Addr) (len cap : Nat) (w : World) (hby : Bytes A len cap w) :
    Calls Tryd.prog 44 #[.slice A len cap] w fun e w' => ∃ (xs : List Sec) (v : Value) (j : Jn), e = .returned (.tuple #[v, jnv j]) ∧ (Own w.heap.size v xs w' ∧ xs.length ≤ 7) ∧ Below w.heap.size w w' := by
  have hB0 : Below w.heap.size w (w.alloc (.cells #[.int .i64 zJ.x.re, .int .i64 zJ.x.im, .int .i64 zJ.x.den, .int .i64 zJ.y.re, .int .i64 zJ.y.im, .int .i64 zJ.y.den] 54)) := (Below.refl _ _).alloc (Nat.le_refl _) _
  go_enter Tryd.func44, Tryd.ntmps44
  go_wp2_with (go_at_call 48; (with_reducible refine (openB A len cap _ (w.heap.size + 1) (by simp) (hby.below ((Below.refl _ _).alloc (Nat.le_refl _) _))).mono ?_); rintro e w1 ⟨rfl, hr1, hb⟩; refine Hid.out ?_)
  refine Lib.hid ?_
  have hlt := hr1.lt
  have hJ : JnF w1 w.heap.size zJ := (JnF.new w zJ 54).below hb (by simp)
  have hB : Below w.heap.size w w1 := bstep hB0 hb (by simp)
  clear hb hB0
  go_wp2_with (go_at_call 59; (with_reducible refine (dfibre_any (w.heap.size + 1) _ (RdEx.of hr1 (by omega))).mono ?_); rintro e w2 ⟨xs, v, rfl, ⟨hu, hx⟩, hO, hl⟩; refine Hid.out ?_)
  refine Lib.hid ?_
  have hr2 := hu _ hr1
  have hJ := hJ.belX hx (by omega) (by omega)
  have hz2 := hx.size
  have hX2 : BelX w.heap.size (w.heap.size + 1) w w2 := BelX.step (BelX.of hB) hx hB.size
  clear hu hx hr1
  go_wp2_with (go_at_call 88; (with_reducible refine (djones_any (w.heap.size + 1) _ (RdEx.of hr2 (by omega))).mono ?_); rintro e w3 ⟨j, rfl, ⟨-, hx⟩, -⟩; refine Hid.out ?_)
  refine Lib.hid ?_
  have hJ := hJ.belX hx (by omega) (by omega)
  have hO3 : Own w1.heap.size v xs w3 := hO.belX hx hlt
  have hne : ∀ k, v.ownBlock = some k → k ≠ w.heap.size := fun k hk e => by
    have := (hO.lt k hk).1
    omega
  have hX3 := (BelX.step hX2 hx (by omega)).below (Nat.le_succ _)
  obtain ⟨⟨z0, z1, z2, z3, z4, z5⟩, hfz⟩ := hJ
  unfold FreeB at hfz
  clear hx hr2 hO hX2
  have hB3 : Below w.heap.size w w3 := hX3
  clear hX3
  go_wp2
  refine bodyPost_ret (v := .tuple #[v, jnv j]) (by simp [results, Tryd.results44, go_sem, *]) rfl ⟨xs, v, j, rfl, ⟨?_, hl⟩, by (repeat' (first | (with_reducible exact Below.refl _ _) | (with_reducible assumption) | (with_reducible refine Below.setCell ?_ (by first | omega | (simp; done) | (simp; omega)) _) | (with_reducible refine Below.alloc ?_ (by first | omega | (simp; done) | (simp; omega)) _) | (with_reducible refine below_drewN ?_ _) | (with_reducible refine Below.drew ?_)))⟩
  exact ((((((hO3.far hne _).far hne _).far hne _).far hne _).far hne _).far hne _).mono (by omega)
end Go.Proofs.YtmaifiakjlbooaaDoor
