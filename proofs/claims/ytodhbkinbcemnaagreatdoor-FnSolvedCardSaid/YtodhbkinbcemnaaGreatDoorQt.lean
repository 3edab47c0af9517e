/-
  Texts of this claim, joined: Zj; Zk; Zl. Nothing is claimed here; the other texts of this claim use it.
-/
import Derived.Test.YtodhbkinbcemnaaGreatDoorYf
import Derived.Test.YtodhbkinbcemnaaGreatDoorQs
import Derived.Test.YtodhbkinbcemnaaGreatDoorDz
import Derived.Test.YtodhbkinbcemnaaGreatDoorMv
namespace Go.Proofs.YtodhbkinbcemnaaGreatDoor
set_option linter.unusedSimpArgs false
set_option linter.unusedVariables false
section
open Go.RowKit
attribute [local go_sem ↓] Go.wp_at_zero Go.wp_at_succ
def FreeB (w : World) (b : Nat) : Prop := ∀ o, w.frozen? ⟨b, o, none⟩ = false
theorem FreeB.below {w w' : World} {b B : Nat} (h : FreeB w b) (hb : Below B w w') (hlt : b < B) : FreeB w' b := fun o => (hb.frozen (p := ⟨b, o, none⟩) hlt).trans (h o)
theorem FreeB.new (w : World) (cs : Array Value) (t : TypeId) : FreeB (w.alloc (.cells cs t)) w.heap.size := fun o => by unfold World.frozen?; rw [show (w.alloc (.cells cs t)).heap[w.heap.size]? = some (.cells cs t (0, 0)) from heap_alloc_new w _]; simp
theorem FreeB.alloc {w : World} {b : Nat} (h : FreeB w b) (hlt : b < w.heap.size) (o : Obj) : FreeB (w.alloc o) b := h.below ((Below.refl _ _).alloc (Nat.le_refl _) o) hlt
theorem JnAt.same {w w' : World} {b : Nat} {m : Jn} (h : JnAt w b m) (hc : ∀ o, w'.cell? ⟨b, o, none⟩ = w.cell? ⟨b, o, none⟩) : JnAt w' b m := by
  unfold JnAt at h ⊢
  simp only [hc]
  exact h
theorem JnAt.lt {w : World} {b : Nat} {m : Jn} (h : JnAt w b m) : b < w.heap.size := World.block_lt_of_cell? w _ h.1
theorem JnAt.below {w w' : World} {b B : Nat} {m : Jn} (h : JnAt w b m) (hb : Below B w w') (hlt : b < B) : JnAt w' b m := h.same fun o => hb.cell (p := ⟨b, o, none⟩) hlt
theorem JnAt.alloc {w : World} {b : Nat} {m : Jn} (h : JnAt w b m) (o : Obj) : JnAt (w.alloc o) b m := h.below ((Below.refl _ _).alloc (Nat.le_refl _) o) h.lt
theorem JnAt.drew {w : World} {b : Nat} {m : Jn} (h : JnAt w b m) : JnAt w.drew b m := h
theorem JnAt.drewN {w : World} {b : Nat} {m : Jn} (h : JnAt w b m) (n : Nat) : JnAt (w.drewN n) b m := h
theorem JnAt.far {w : World} {b : Nat} {m : Jn} (h : JnAt w b m) {p : Addr} (hp : b < p.block) (u : Value) : JnAt (w.setCell p u) b m := h.below ((Below.refl p.block w).setCell (Nat.le_refl _) u) hp
theorem JnAt.new (w : World) (m : Jn) (t : TypeId) : JnAt (w.alloc (.cells #[.int .i64 m.x.re, .int .i64 m.x.im, .int .i64 m.x.den, .int .i64 m.y.re, .int .i64 m.y.im, .int .i64 m.y.den] t)) w.heap.size m :=
  ⟨World.cell?_alloc_at _ _ _ _ rfl, World.cell?_alloc_at _ _ _ _ rfl, World.cell?_alloc_at _ _ _ _ rfl, World.cell?_alloc_at _ _ _ _ rfl, World.cell?_alloc_at _ _ _ _ rfl, World.cell?_alloc_at _ _ _ _ rfl⟩
def zJ : Jn := ⟨⟨0, 0, 0⟩, ⟨0, 0, 0⟩⟩
def JnF (w : World) (b : Nat) (m : Jn) : Prop := JnAt w b m ∧ FreeB w b
theorem JnF.alloc {w : World} {b : Nat} {m : Jn} (h : JnF w b m) (o : Obj) : JnF (w.alloc o) b m := ⟨h.1.alloc o, h.2.alloc h.1.lt o⟩
theorem JnF.drew {w : World} {b : Nat} {m : Jn} (h : JnF w b m) : JnF w.drew b m := h
theorem JnF.drewN {w : World} {b : Nat} {m : Jn} (h : JnF w b m) (n : Nat) : JnF (w.drewN n) b m := h
theorem JnF.below {w w' : World} {b B : Nat} {m : Jn} (h : JnF w b m) (hb : Below B w w') (hlt : b < B) : JnF w' b m := ⟨h.1.below hb hlt, h.2.below hb hlt⟩
theorem JnF.new (w : World) (m : Jn) (t : TypeId) : JnF (w.alloc (.cells #[.int .i64 m.x.re, .int .i64 m.x.im, .int .i64 m.x.den, .int .i64 m.y.re, .int .i64 m.y.im, .int .i64 m.y.den] t)) w.heap.size m := ⟨JnAt.new w m t, FreeB.new w _ _⟩
theorem JnF.belX {w w' : World} {b br B : Nat} {m : Jn} (h : JnF w b m) (hb : BelX B br w w') (hlt : b < B) (hne : b ≠ br) : JnF w' b m := by
  have e := hb.block b hlt hne
  exact ⟨h.1.same fun o => World.cell?_of_block (w := w) e, fun o => (World.frozen?_of_block (w := w) e).trans (h.2 o)⟩
/-- A fraction lies at the head of a block. -/
def FrAt (w : World) (b : Nat) (m : Fr) : Prop := w.cell? ⟨b, 0, none⟩ = some (.int .i64 m.re) ∧ w.cell? ⟨b, 1, none⟩ = some (.int .i64 m.im) ∧ w.cell? ⟨b, 2, none⟩ = some (.int .i64 m.den)
theorem FrAt.same {w w' : World} {b : Nat} {m : Fr} (h : FrAt w b m) (hc : ∀ o, w'.cell? ⟨b, o, none⟩ = w.cell? ⟨b, o, none⟩) : FrAt w' b m := by
  unfold FrAt at h ⊢
  simp only [hc]
  exact h
theorem FrAt.lt {w : World} {b : Nat} {m : Fr} (h : FrAt w b m) : b < w.heap.size := World.block_lt_of_cell? w _ h.1
theorem FrAt.below {w w' : World} {b B : Nat} {m : Fr} (h : FrAt w b m) (hb : Below B w w') (hlt : b < B) : FrAt w' b m := h.same fun o => hb.cell (p := ⟨b, o, none⟩) hlt
theorem FrAt.alloc {w : World} {b : Nat} {m : Fr} (h : FrAt w b m) (o : Obj) : FrAt (w.alloc o) b m := h.below ((Below.refl _ _).alloc (Nat.le_refl _) o) h.lt
theorem FrAt.new (w : World) (m : Fr) (t : TypeId) : FrAt (w.alloc (.cells #[.int .i64 m.re, .int .i64 m.im, .int .i64 m.den] t)) w.heap.size m :=
  ⟨World.cell?_alloc_at _ _ _ _ rfl, World.cell?_alloc_at _ _ _ _ rfl, World.cell?_alloc_at _ _ _ _ rfl⟩
def FrF (w : World) (b : Nat) (m : Fr) : Prop := FrAt w b m ∧ FreeB w b
theorem FrF.alloc {w : World} {b : Nat} {m : Fr} (h : FrF w b m) (o : Obj) : FrF (w.alloc o) b m := ⟨h.1.alloc o, h.2.alloc h.1.lt o⟩
theorem FrF.new (w : World) (m : Fr) (t : TypeId) : FrF (w.alloc (.cells #[.int .i64 m.re, .int .i64 m.im, .int .i64 m.den] t)) w.heap.size m := ⟨FrAt.new w m t, FreeB.new w _ _⟩
theorem FrF.belX {w w' : World} {b br B : Nat} {m : Fr} (h : FrF w b m) (hb : BelX B br w w') (hlt : b < B) (hne : b ≠ br) : FrF w' b m := by
  have e := hb.block b hlt hne
  exact ⟨h.1.same fun o => World.cell?_of_block (w := w) e, fun o => (World.frozen?_of_block (w := w) e).trans (h.2 o)⟩
set_option maxRecDepth 100000 in
set_option maxHeartbeats 4000000 in
theorem djones_any (br : Nat) (w : World) (hr : RdEx 17 w br) :
    Calls Tryz.prog 62 #[.pointer (some ⟨br, 0, none⟩)] w fun e w' => ∃ x : Jn, e = .returned (jnv x) ∧ Drw 17 br w w' ∧ True := by
  obtain ⟨k, hr, hmin, hk⟩ := hr.min
  have hlt := hr.lt
  have hX0 : BelX w.heap.size br w (w.alloc (.cells #[.int .i64 zJ.x.re, .int .i64 zJ.x.im, .int .i64 zJ.x.den, .int .i64 zJ.y.re, .int .i64 zJ.y.im, .int .i64 zJ.y.den] 100)) := (BelX.refl _ _ _).alloc (Nat.le_refl _) _
  go_enter Tryz.func62, Tryz.ntmps62
  go_wp2_with (go_at_call 89; (with_reducible refine (dfrac_any br _ (by exact rd_)).mono ?_); rintro e w1 ⟨x, rfl, ⟨hu, hx⟩, -⟩; refine Hid.out ?_)
  refine Lib.hid ?_
  have hr1 := hu _ (hr.alloc _)
  have hJ : JnF w1 w.heap.size zJ := (JnF.new w zJ 100).belX hx (by simp) (by omega)
  have hX : BelX w.heap.size br w w1 := BelX.step hX0 hx (by simp)
  have hz1 := hX.size
  have hj1 := hJ.1.lt
  have hbx := FrF.new w1 x 25
  have hr1 := hr1.alloc (.cells #[.int .i64 x.re, .int .i64 x.im, .int .i64 x.den] 25)
  have hJ := hJ.alloc (.cells #[.int .i64 x.re, .int .i64 x.im, .int .i64 x.den] 25)
  have hX : BelX w.heap.size br w (w1.alloc (.cells #[.int .i64 x.re, .int .i64 x.im, .int .i64 x.den] 25)) := hX.alloc hz1 _
  clear hu hx hX0 hr
  go_wp2_with (go_at_call 89; (with_reducible refine (dfrac_any br _ (RdEx.of hr1 (by omega))).mono ?_); rintro e w2 ⟨y, rfl, ⟨hu, hx⟩, -⟩; refine Hid.out ?_)
  refine Lib.hid ?_
  have hr2 := hu _ hr1
  have hJ : JnF w2 w.heap.size zJ := hJ.belX hx (by simp; omega) (by omega)
  have hbx : FrF w2 w1.heap.size x := hbx.belX hx (by simp) (by omega)
  have hX : BelX w.heap.size br w w2 := BelX.step hX hx (by simp; omega)
  have hz2 := hX.size
  have hbl := hbx.1.lt
  have hr2 := hr2.alloc (.cells #[.int .i64 y.re, .int .i64 y.im, .int .i64 y.den] 25)
  have hby := FrF.new w2 y 25
  have hJ := hJ.alloc (.cells #[.int .i64 y.re, .int .i64 y.im, .int .i64 y.den] 25)
  have hbx := hbx.alloc (.cells #[.int .i64 y.re, .int .i64 y.im, .int .i64 y.den] 25)
  have hX : BelX w.heap.size br w (w2.alloc (.cells #[.int .i64 y.re, .int .i64 y.im, .int .i64 y.den] 25)) := hX.alloc hz2 _
  clear hu hx hr1
  go_wp2_with (go_at_call 22; (with_reducible refine (pick_any 10 br _ (RdEx.of hr2 (by omega)) (by omega) (by omega)).mono ?_); rintro e w3 ⟨n, rfl, ⟨hu, hx⟩, hn⟩; refine Hid.out ?_)
  refine Lib.hid ?_
  have hr3 := (hu _ hr2).mono (k' := k + 17) (by omega)
  have hJ : JnF w3 w.heap.size zJ := hJ.belX hx (by simp; omega) (by omega)
  have hbx : FrF w3 w1.heap.size x := hbx.belX hx (by simp; omega) (by omega)
  have hby : FrF w3 w2.heap.size y := hby.belX hx (by simp) (by omega)
  have hX : BelX w.heap.size br w w3 := BelX.step hX hx (by simp; omega)
  have hz3 := hX.size
  have hyl := hby.1.lt
  obtain ⟨⟨z0, z1, z2, z3, z4, z5⟩, zf⟩ := hJ
  obtain ⟨⟨x0, x1, x2⟩, xf⟩ := hbx
  obtain ⟨⟨y0, y1, y2⟩, yf⟩ := hby
  unfold FreeB at zf xf yf
  clear hu hx hr2 hn
  go_wp2
  · (exact bodyPost_ret (v := jnv ⟨⟨0, 0, 1⟩, y⟩) (by simp [results, Tryz.results62, go_sem, *]) rfl ⟨_, rfl, drw_mk hmin (by exact rd_) (by exact belx_), trivial⟩)
  · (exact bodyPost_ret (v := jnv ⟨x, ⟨0, 0, 1⟩⟩) (by simp [results, Tryz.results62, go_sem, *]) rfl ⟨_, rfl, drw_mk hmin (by exact rd_) (by exact belx_), trivial⟩)
  · (exact bodyPost_ret (v := jnv ⟨x, y⟩) (by simp [results, Tryz.results62, go_sem, *]) rfl ⟨_, rfl, drw_mk hmin (by exact rd_) (by exact belx_), trivial⟩)
/-- What StokesAdd's rounds keep. -/
structure SD (w : World) (b6 : Nat) (m1 m2 : Mt) (xs : List Fr) (W : World) : Prop where
  P : MH w ([] ++ [(w.heap.size, mtc m1, 28)] ++ [(w.heap.size + 1, mtc m2, 28)] ++ [(w.heap.size + 1 + 1, #[.int .i64 0, .int .i64 0, .int .i64 0, .int .i64 0, .int .i64 0, .int .i64 0, .int .i64 0, .int .i64 0, .int .i64 0, .int .i64 0, .int .i64 0, .int .i64 0], 28)]) W
  o : Blk W b6 (tbc xs) 28
  n : xs.length = 4
  l : w.heap.size + 1 + 1 < b6
section
variable {w W W' : World} {b6 : Nat} {m1 m2 : Mt} {xs : List Fr}
theorem SD.below (h : SD w b6 m1 m2 xs W) (hb : Below W.heap.size W W') : SD w b6 m1 m2 xs W' := ⟨h.P.call hb, (hb.block _ (blk_lt h.o)).trans h.o, h.n, h.l⟩
theorem SD.cell (h : SD w b6 m1 m2 xs W) (o : Nat) (u : Value) : MH w ([] ++ [(w.heap.size, mtc m1, 28)] ++ [(w.heap.size + 1, mtc m2, 28)] ++ [(w.heap.size + 1 + 1, #[.int .i64 0, .int .i64 0, .int .i64 0, .int .i64 0, .int .i64 0, .int .i64 0, .int .i64 0, .int .i64 0, .int .i64 0, .int .i64 0, .int .i64 0, .int .i64 0], 28)]) (W.setCell ⟨b6, o, none⟩ u) := by
  have hl := h.l
  refine ⟨h.P.B.setCell (by show w.heap.size ≤ b6; omega) _, fun q hq => ⟨(h.P.g q hq).1, (Below.heap_setCell _ _ _ _ ?_).trans (h.P.g q hq).2⟩⟩
  simp only [List.mem_append, List.mem_cons, List.not_mem_nil, or_false, false_or] at hq
  rcases hq with (rfl | rfl) | rfl <;> show _ ≠ b6 <;> simp <;> omega
theorem MH.cellD {bl : List (Nat × Array Value × TypeId)} (h : MH w bl W) {b : Nat} (hb : w.heap.size ≤ b) (hne : ∀ q ∈ bl, q.1 ≠ b) (o : Nat) (u : Value) : MH w bl (W.setCell ⟨b, o, none⟩ u) :=
  ⟨h.B.setCell hb _, fun q hq => ⟨(h.g q hq).1, (Below.heap_setCell _ _ _ _ (hne q hq)).trans (h.g q hq).2⟩⟩
theorem SD.put (h : SD w b6 m1 m2 xs W) {i : Nat} (hi : i < 4) (s : Fr) : SD w b6 m1 m2 (xs.set i s) (((W.setCell ⟨b6, i * 3, none⟩ (.int .i64 s.re)).setCell ⟨b6, i * 3 + 1, none⟩ (.int .i64 s.im)).setCell ⟨b6, i * 3 + 2, none⟩ (.int .i64 s.den)) := by
  have hl := h.l
  have hne : ∀ q ∈ ([] ++ [(w.heap.size, mtc m1, 28)] ++ [(w.heap.size + 1, mtc m2, 28)] ++ [(w.heap.size + 1 + 1, #[.int .i64 0, .int .i64 0, .int .i64 0, .int .i64 0, .int .i64 0, .int .i64 0, .int .i64 0, .int .i64 0, .int .i64 0, .int .i64 0, .int .i64 0, .int .i64 0], 28)] : List (Nat × Array Value × TypeId)), q.1 ≠ b6 := by
    intro q hq
    simp only [List.mem_append, List.mem_cons, List.not_mem_nil, or_false, false_or] at hq
    rcases hq with (rfl | rfl) | rfl
    · show w.heap.size ≠ b6; omega
    · show w.heap.size + 1 ≠ b6; omega
    · show w.heap.size + 1 + 1 ≠ b6; omega
  exact ⟨((h.P.cellD (by omega) hne _ _).cellD (by omega) hne _ _).cellD (by omega) hne _ _, blk_put h.o (by rw [h.n]; exact hi) s, by rw [List.length_set]; exact h.n, h.l⟩
end
theorem szStkD (m : Mt) : ((Tryz.prog).info? 28).map (·.size) = some (mtc m).size := by kernel_rfl
theorem row_len4 {xs : List Fr} (h : xs.length = 4) : ∃ m : Mt, xs = row4 m := by
  match xs, h with
  | [a, b, c, d], _ => exact ⟨⟨a, b, c, d⟩, rfl⟩
set_option maxRecDepth 100000 in
set_option maxHeartbeats 8000000 in
theorem sstokesAdd_e (m1 m2 : Mt) (w : World) : Calls Tryz.prog 63 #[mtv m1, mtv m2] w fun e w' => ∃ (m : Mt) (ok : Bool), e = .returned (.tuple #[mtv m, .bool ok]) ∧ Below w.heap.size w w' := by
  go_enter Tryz.func63, Tryz.ntmps63
  obtain ⟨W0, hW0, hP⟩ : ∃ W, W = ((w.alloc (.cells #[.int .i64 m1.a.re, .int .i64 m1.a.im, .int .i64 m1.a.den, .int .i64 m1.b.re, .int .i64 m1.b.im, .int .i64 m1.b.den, .int .i64 m1.c.re, .int .i64 m1.c.im, .int .i64 m1.c.den, .int .i64 m1.d.re, .int .i64 m1.d.im, .int .i64 m1.d.den] 28)).alloc (.cells #[.int .i64 m2.a.re, .int .i64 m2.a.im, .int .i64 m2.a.den, .int .i64 m2.b.re, .int .i64 m2.b.im, .int .i64 m2.b.den, .int .i64 m2.c.re, .int .i64 m2.c.im, .int .i64 m2.c.den, .int .i64 m2.d.re, .int .i64 m2.d.im, .int .i64 m2.d.den] 28)).alloc (.cells #[.int .i64 0, .int .i64 0, .int .i64 0, .int .i64 0, .int .i64 0, .int .i64 0, .int .i64 0, .int .i64 0, .int .i64 0, .int .i64 0, .int .i64 0, .int .i64 0] 28) ∧ MH w ([] ++ [(w.heap.size, mtc m1, 28)] ++ [(w.heap.size + 1, mtc m2, 28)] ++ [(w.heap.size + 1 + 1, #[.int .i64 0, .int .i64 0, .int .i64 0, .int .i64 0, .int .i64 0, .int .i64 0, .int .i64 0, .int .i64 0, .int .i64 0, .int .i64 0, .int .i64 0, .int .i64 0], 28)]) W := by
    have h0 := (((MH.start (w := w)).alloc (cs := mtc m1) (ty := 28)).alloc (cs := mtc m2) (ty := 28)).alloc (cs := #[.int .i64 0, .int .i64 0, .int .i64 0, .int .i64 0, .int .i64 0, .int .i64 0, .int .i64 0, .int .i64 0, .int .i64 0, .int .i64 0, .int .i64 0, .int .i64 0]) (ty := 28)
    simp only [World.size_alloc] at h0
    exact ⟨_, rfl, h0⟩
  go_upto_region 1 with fail
  rw [← hW0]
  clear hW0
  obtain ⟨p0, p1, p2, p3, p4, p5, p6, p7, p8, p9, p10, p11⟩ := blk_m (hP.at (b := w.heap.size) (cs := mtc m1) (ty := 28) (by simp))
  cases h1 : mreal m1
  · have H1 := Lib.hid h1
    clear h1
    go_upto_region 2 with (first | (go_at_call 28; (with_reducible refine (sstokes_any m1 _).mono ?_); rw [H1.out]; rintro e w3 ⟨rfl, hb⟩; have hP := hP.call hb; clear hb))
    clear p0 p1 p2 p3 p4 p5 p6 p7 p8 p9 p10 p11
    obtain ⟨z0, z1, z2, z3, z4, z5, z6, z7, z8, z9, z10, z11⟩ := (arr_of (hP.at (b := w.heap.size + 1 + 1) (cs := #[.int .i64 0, .int .i64 0, .int .i64 0, .int .i64 0, .int .i64 0, .int .i64 0, .int .i64 0, .int .i64 0, .int .i64 0, .int .i64 0, .int .i64 0, .int .i64 0]) (ty := 28) (by simp))).z
    have hzf := (arr_of (hP.at (b := w.heap.size + 1 + 1) (cs := #[.int .i64 0, .int .i64 0, .int .i64 0, .int .i64 0, .int .i64 0, .int .i64 0, .int .i64 0, .int .i64 0, .int .i64 0, .int .i64 0, .int .i64 0, .int .i64 0]) (ty := 28) (by simp))).f
    have hzl := (arr_of (hP.at (b := w.heap.size + 1 + 1) (cs := #[.int .i64 0, .int .i64 0, .int .i64 0, .int .i64 0, .int .i64 0, .int .i64 0, .int .i64 0, .int .i64 0, .int .i64 0, .int .i64 0, .int .i64 0, .int .i64 0]) (ty := 28) (by simp))).l
    have hBF := hP.B
    go_wp2
    exact bodyPost_ret (v := .tuple #[mtv zM4, .bool false]) (by simp [results, Tryz.results63, mtv, zM4, go_sem, *]) rfl ⟨zM4, false, rfl, by exact below_⟩
  have H1 := Lib.hid h1
  clear h1
  cases h2 : mreal m2
  · have H2 := Lib.hid h2
    clear h2
    go_upto_region 2 with (first | (go_at_call 28; (with_reducible refine (sstokes_any m1 _).mono ?_); rw [H1.out]; rintro e w3 ⟨rfl, hb⟩; have hP := hP.call hb; obtain ⟨q0, q1, q2, q3, q4, q5, q6, q7, q8, q9, q10, q11⟩ := blk_m (hP.at (b := w.heap.size + 1) (cs := mtc m2) (ty := 28) (by simp)); clear hb p0 p1 p2 p3 p4 p5 p6 p7 p8 p9 p10 p11) | (go_at_call 28; (with_reducible refine (sstokes_any m2 _).mono ?_); rw [H2.out]; rintro e w4 ⟨rfl, hb⟩; have hP := hP.call hb; clear hb q0 q1 q2 q3 q4 q5 q6 q7 q8 q9 q10 q11))
    obtain ⟨z0, z1, z2, z3, z4, z5, z6, z7, z8, z9, z10, z11⟩ := (arr_of (hP.at (b := w.heap.size + 1 + 1) (cs := #[.int .i64 0, .int .i64 0, .int .i64 0, .int .i64 0, .int .i64 0, .int .i64 0, .int .i64 0, .int .i64 0, .int .i64 0, .int .i64 0, .int .i64 0, .int .i64 0]) (ty := 28) (by simp))).z
    have hzf := (arr_of (hP.at (b := w.heap.size + 1 + 1) (cs := #[.int .i64 0, .int .i64 0, .int .i64 0, .int .i64 0, .int .i64 0, .int .i64 0, .int .i64 0, .int .i64 0, .int .i64 0, .int .i64 0, .int .i64 0, .int .i64 0]) (ty := 28) (by simp))).f
    have hzl := (arr_of (hP.at (b := w.heap.size + 1 + 1) (cs := #[.int .i64 0, .int .i64 0, .int .i64 0, .int .i64 0, .int .i64 0, .int .i64 0, .int .i64 0, .int .i64 0, .int .i64 0, .int .i64 0, .int .i64 0, .int .i64 0]) (ty := 28) (by simp))).l
    have hBF := hP.B
    go_wp2
    exact bodyPost_ret (v := .tuple #[mtv zM4, .bool false]) (by simp [results, Tryz.results63, mtv, zM4, go_sem, *]) rfl ⟨zM4, false, rfl, by exact below_⟩
  have H2 := Lib.hid h2
  clear h2
  go_upto_region 3 with (first | (go_at_call 28; (with_reducible refine (sstokes_any m1 _).mono ?_); rw [H1.out]; rintro e w3 ⟨rfl, hb⟩; have hP := hP.call hb; obtain ⟨q0, q1, q2, q3, q4, q5, q6, q7, q8, q9, q10, q11⟩ := blk_m (hP.at (b := w.heap.size + 1) (cs := mtc m2) (ty := 28) (by simp)); clear hb p0 p1 p2 p3 p4 p5 p6 p7 p8 p9 p10 p11) | (go_at_call 28; (with_reducible refine (sstokes_any m2 _).mono ?_); rw [H2.out]; rintro e w4 ⟨rfl, hb⟩; have hP := hP.call hb; clear hb q0 q1 q2 q3 q4 q5 q6 q7 q8 q9 q10 q11))
  go_upto_region 4 with fail
  obtain ⟨b6, hb6⟩ : ∃ b, b = w4.heap.size := ⟨_, rfl⟩
  obtain ⟨W1, hW1, hD⟩ : ∃ W, W = w4.alloc (.cells #[.int .i64 0, .int .i64 0, .int .i64 0, .int .i64 0, .int .i64 0, .int .i64 0, .int .i64 0, .int .i64 0, .int .i64 0, .int .i64 0, .int .i64 0, .int .i64 0] 28) ∧ SD w b6 m1 m2 (row4 zM4) W := by
    have hl := blk_lt (hP.at (b := w.heap.size + 1 + 1) (cs := #[.int .i64 0, .int .i64 0, .int .i64 0, .int .i64 0, .int .i64 0, .int .i64 0, .int .i64 0, .int .i64 0, .int .i64 0, .int .i64 0, .int .i64 0, .int .i64 0]) (ty := 28) (by simp))
    exact ⟨_, rfl, hP.call ((Below.refl _ _).alloc (Nat.le_refl _) _), by rw [hb6]; exact heap_alloc_last w4 _, rfl, by omega⟩
  rw [← hW1, ← hb6]
  clear hW1 hb6 hP
  go_wp2
  go_loopw [7] (fun i wr => ∃ (k : Nat) (xs : List Fr), k ≤ 4 ∧ i = .int .i64 k ∧ SD w b6 m1 m2 xs wr) (fun i _ => 4 - (intOf i).toNat)
  case atStart => exact ⟨0, _, by omega, rfl, hD⟩
  case round =>
    clear hD
    rename World => wo
    obtain ⟨k, xs, hk, rfl, hD⟩ := hrel
    by_cases hk4 : k < 4
    · have hki : (k : Int) < 4 := by omega
      have hki0 : (0 : Int) ≤ (k : Int) := by omega
      obtain ⟨a0, a1, a2⟩ := blk_get (xs := row4 m1) (hD.P.at (b := w.heap.size) (cs := mtc m1) (ty := 28) (by simp)) (i := k) hk4
      obtain ⟨b0, b1, b2⟩ := blk_get (xs := row4 m2) (hD.P.at (b := w.heap.size + 1) (cs := mtc m2) (ty := 28) (by simp)) (i := k) hk4
      have la := blk_lt (hD.P.at (b := w.heap.size) (cs := mtc m1) (ty := 28) (by simp))
      have lb := blk_lt (hD.P.at (b := w.heap.size + 1) (cs := mtc m2) (ty := 28) (by simp))
      obtain ⟨f1, hf1⟩ : ∃ f, f = (row4 m1).getD k zK := ⟨_, rfl⟩
      obtain ⟨f2, hf2⟩ : ∃ f, f = (row4 m2).getD k zK := ⟨_, rfl⟩
      rw [← hf1] at a0 a1 a2
      rw [← hf2] at b0 b1 b2
      clear hf1 hf2
      go_upto_region 7 with fail
      go_cut [8, 9] from 24 to 35 (fun s8 s9 W => ∃ (x : Fr) (ok : Bool), s9 = .bool ok ∧ ∃ bx : Nat, s8 = .pointer (some ⟨bx, 0, none⟩) ∧ wo.heap.size ≤ bx ∧ Blk W bx (frc x) 25 ∧ SD w b6 m1 m2 xs W)
      case first =>
        have hSx : ∀ W, Below wo.heap.size wo W → W.cell? ⟨w.heap.size, k * 3, none⟩ = some (.int .i64 f1.re) ∧ W.cell? ⟨w.heap.size, k * 3 + 1, none⟩ = some (.int .i64 f1.im) ∧ W.cell? ⟨w.heap.size, k * 3 + 2, none⟩ = some (.int .i64 f1.den) ∧ W.cell? ⟨w.heap.size + 1, k * 3, none⟩ = some (.int .i64 f2.re) ∧ W.cell? ⟨w.heap.size + 1, k * 3 + 1, none⟩ = some (.int .i64 f2.im) ∧ W.cell? ⟨w.heap.size + 1, k * 3 + 2, none⟩ = some (.int .i64 f2.den) := fun W h =>
          ⟨(h.cell (p := ⟨_, _, none⟩) la).trans a0, (h.cell (p := ⟨_, _, none⟩) la).trans a1, (h.cell (p := ⟨_, _, none⟩) la).trans a2, (h.cell (p := ⟨_, _, none⟩) lb).trans b0, (h.cell (p := ⟨_, _, none⟩) lb).trans b1, (h.cell (p := ⟨_, _, none⟩) lb).trans b2⟩
        go_region_held3 (fun W => W.cell? ⟨w.heap.size, k * 3, none⟩ = some (.int .i64 f1.re) ∧ W.cell? ⟨w.heap.size, k * 3 + 1, none⟩ = some (.int .i64 f1.im) ∧ W.cell? ⟨w.heap.size, k * 3 + 2, none⟩ = some (.int .i64 f1.den) ∧ W.cell? ⟨w.heap.size + 1, k * 3, none⟩ = some (.int .i64 f2.re) ∧ W.cell? ⟨w.heap.size + 1, k * 3 + 1, none⟩ = some (.int .i64 f2.im) ∧ W.cell? ⟨w.heap.size + 1, k * 3 + 2, none⟩ = some (.int .i64 f2.den)) ((refine hSx _ ?_; exact below_)) (first | (go_at_call 96; (with_reducible refine (sadd_e f1 f2 _).mono ?_); rintro e w2 ⟨x, ok, rfl, hb2⟩; have hB2 : Below wo.heap.size wo w2 := bstep (by exact below_) hb2 (by first | omega | (simp; done)); have hz2 := hB2.size; (first | (have hA2 : Blk w2 wo.heap.size (tbc [zK]) 25 := (hb2.block _ (by simp; done)).trans (heap_alloc_last _ _); obtain ⟨e0, e1, e2⟩ := blk_get hA2 (i := 0) (show 0 < 1 by decide); have e3 := blk_free hA2; simp only [Nat.zero_mul, Nat.zero_add] at e0 e1 e2) | skip); clear hb2))
        all_goals (try go_wp2)
        all_goals (go_meet; refine ⟨x, ok, rfl, _, rfl, ?_, ?_, hD.below (show Below wo.heap.size wo _ by exact below_)⟩)
        all_goals first | omega | exact Nat.le_refl _ | exact heap_alloc_last _ _ | exact blk_put hA2 (i := 0) (show 0 < 1 by decide) x
      clear hD a0 a1 a2 b0 b1 b2 la lb
      rename World => wx
      obtain ⟨x, ok, q9, bx, q8, hbx, hX, hD⟩ := hcut
      subst q8 q9
      cases ok
      · have hP := hD.P
        clear hX hD hbx
        obtain ⟨z0, z1, z2, z3, z4, z5, z6, z7, z8, z9, z10, z11⟩ := (arr_of (hP.at (b := w.heap.size + 1 + 1) (cs := #[.int .i64 0, .int .i64 0, .int .i64 0, .int .i64 0, .int .i64 0, .int .i64 0, .int .i64 0, .int .i64 0, .int .i64 0, .int .i64 0, .int .i64 0, .int .i64 0]) (ty := 28) (by simp))).z
        have hzf := (arr_of (hP.at (b := w.heap.size + 1 + 1) (cs := #[.int .i64 0, .int .i64 0, .int .i64 0, .int .i64 0, .int .i64 0, .int .i64 0, .int .i64 0, .int .i64 0, .int .i64 0, .int .i64 0, .int .i64 0, .int .i64 0]) (ty := 28) (by simp))).f
        have hzl := (arr_of (hP.at (b := w.heap.size + 1 + 1) (cs := #[.int .i64 0, .int .i64 0, .int .i64 0, .int .i64 0, .int .i64 0, .int .i64 0, .int .i64 0, .int .i64 0, .int .i64 0, .int .i64 0, .int .i64 0, .int .i64 0]) (ty := 28) (by simp))).l
        have hBF := hP.B
        go_wp2
        exact bodyPost_ret (v := .tuple #[mtv zM4, .bool false]) (by simp [results, Tryz.results63, mtv, zM4, go_sem, *]) rfl ⟨zM4, false, rfl, by exact below_⟩
      · obtain ⟨x0, x1, x2⟩ := blk_fr0 hX
        obtain ⟨e0, e1, e2⟩ := blk_get hD.o (i := k) (by rw [hD.n]; exact hk4)
        have e3 := blk_free hD.o
        have hlo := blk_lt hD.o
        clear hX hbx
        go_wp2
        go_roundw
        case rel => exact ⟨k + 1, xs.set k x, by omega, by go_num, hD.put hk4 x⟩
        case measure => first | (simp [intOf]; done) | (simp [intOf]; omega)
    · obtain ⟨m3, rfl⟩ := row_len4 hD.n
      have hQ : Blk wo b6 (mtc m3) 28 := hD.o
      have hP := hD.P
      have hPr := hP.at (b := w.heap.size + 1 + 1) (cs := #[.int .i64 0, .int .i64 0, .int .i64 0, .int .i64 0, .int .i64 0, .int .i64 0, .int .i64 0, .int .i64 0, .int .i64 0, .int .i64 0, .int .i64 0, .int .i64 0]) (ty := 28) (by simp)
      clear hD
      go_wp2_with (first | (refine wpList_load_row rfl 28 _ rfl b6 rfl 28 (mtc m3) (0, 0) _ hQ Tryz.underlying28 rfl (szStkD m3) ?_) | (refine wpList_store_row rfl 28 _ _ rfl (w.heap.size + 1 + 1) (mtc m3) rfl rfl 28 (#[.int .i64 0, .int .i64 0, .int .i64 0, .int .i64 0, .int .i64 0, .int .i64 0, .int .i64 0, .int .i64 0, .int .i64 0, .int .i64 0, .int .i64 0, .int .i64 0]) hPr (szStkD m3) rfl (mtc_one m3) ?_))
      obtain ⟨WF, hWF, hF, hB⟩ : ∃ W, W = wo.setRow (w.heap.size + 1 + 1) (mtc m3) ∧ Blk W (w.heap.size + 1 + 1) (mtc m3) 28 ∧ Below w.heap.size w W := ⟨_, rfl, setRow_heap _ _ _ _ _ _ hPr, below_setRow hP.B (by omega) _⟩
      rw [← hWF]
      clear hWF hPr hP hQ
      obtain ⟨p0, p1, p2, p3, p4, p5, p6, p7, p8, p9, p10, p11⟩ := blk_m hF
      exact bodyPost_ret (v := .tuple #[mtv m3, .bool true]) (by simp [results, Tryz.results63, mtv, go_sem, *]) rfl ⟨m3, true, rfl, hB⟩
end
section
open Go.RowKit
attribute [local go_sem ↓] Go.wp_at_zero Go.wp_at_succ
/-- Blocks kept beside a reader. -/
structure RB (w : World) (br : Nat) (bl : List (Nat × Array Value × TypeId)) (W : World) : Prop where
  X : BelX w.heap.size br w W
  g : ∀ q ∈ bl, w.heap.size ≤ q.1 ∧ Blk W q.1 q.2.1 q.2.2
  l : br < w.heap.size
section
variable {w W W' : World} {br : Nat} {bl : List (Nat × Array Value × TypeId)}
theorem RB.callX (h : RB w br bl W) (hb : BelX W.heap.size br W W') : RB w br bl W' :=
  ⟨BelX.step h.X hb h.X.size, fun q hq => ⟨(h.g q hq).1, (hb.block q.1 (blk_lt (h.g q hq).2) (by have := (h.g q hq).1; have := h.l; omega)).trans (h.g q hq).2⟩, h.l⟩
theorem RB.call (h : RB w br bl W) (hb : Below W.heap.size W W') : RB w br bl W' := h.callX (BelX.of hb)
theorem RB.alloc {cs : Array Value} {ty : TypeId} (h : RB w br bl W) : RB w br (bl ++ [(W.heap.size, cs, ty)]) (W.alloc (.cells cs ty)) := by
  refine ⟨h.X.alloc h.X.size _, fun q hq => ?_, h.l⟩
  rcases List.mem_append.1 hq with h1 | h1
  · obtain ⟨g1, g2⟩ := h.g q h1
    exact ⟨g1, (Below.heap_alloc _ _ _ (blk_lt g2)).trans g2⟩
  · simp at h1; subst h1
    exact ⟨h.X.size, heap_alloc_last W _⟩
theorem RB.at (h : RB w br bl W) {b : Nat} {cs : Array Value} {ty : TypeId} (hq : (b, cs, ty) ∈ bl) : Blk W b cs ty := (h.g _ hq).2
theorem RB.start (h : br < w.heap.size) : RB w br [] w := ⟨BelX.refl _ _ _, (fun _ hq => absurd hq (by simp)), h⟩
theorem RB.far (h : RB w br ([] ++ [(w.heap.size, #[.int .i64 0, .int .i64 0, .int .i64 0, .int .i64 0, .int .i64 0, .int .i64 0, .int .i64 0, .int .i64 0, .int .i64 0, .int .i64 0, .int .i64 0, .int .i64 0], 28)]) W) {b : Nat} (hb : w.heap.size < b) (o : Nat) (u : Value) : RB w br ([] ++ [(w.heap.size, #[.int .i64 0, .int .i64 0, .int .i64 0, .int .i64 0, .int .i64 0, .int .i64 0, .int .i64 0, .int .i64 0, .int .i64 0, .int .i64 0, .int .i64 0, .int .i64 0], 28)]) (W.setCell ⟨b, o, none⟩ u) := by
  refine ⟨h.X.setCell (by show w.heap.size ≤ b; omega) _, fun q hq => ?_, h.l⟩
  have hq2 := hq
  simp only [List.nil_append, List.mem_singleton] at hq2
  subst hq2
  exact ⟨(h.g _ hq).1, (Below.heap_setCell _ _ _ _ (by show w.heap.size ≠ b; omega)).trans (h.g _ hq).2⟩
end
set_option maxRecDepth 100000 in
set_option maxHeartbeats 8000000 in
theorem dstokes_any (br : Nat) (w : World) (hr : RdEx 100 w br) :
    Calls Tryz.prog 23 #[.pointer (some ⟨br, 0, none⟩)] w fun e w' => ∃ m : Mt, e = .returned (mtv m) ∧ Drw 100 br w w' ∧ True := by
  obtain ⟨k0, hr, hmin, hk⟩ := hr.min
  have hlt := hr.lt
  go_enter Tryz.func23, Tryz.ntmps23
  obtain ⟨W0, hW0, hR0, hr0⟩ : ∃ W, W = w.alloc (.cells #[.int .i64 0, .int .i64 0, .int .i64 0, .int .i64 0, .int .i64 0, .int .i64 0, .int .i64 0, .int .i64 0, .int .i64 0, .int .i64 0, .int .i64 0, .int .i64 0] 28) ∧ RB w br ([] ++ [(w.heap.size, #[.int .i64 0, .int .i64 0, .int .i64 0, .int .i64 0, .int .i64 0, .int .i64 0, .int .i64 0, .int .i64 0, .int .i64 0, .int .i64 0, .int .i64 0, .int .i64 0], 28)]) W ∧ RdIs W br k0 := ⟨_, rfl, (RB.start hlt).alloc, hr.alloc _⟩
  go_upto_region 1 with fail
  rw [← hW0]
  clear hW0 hr
  go_upto_region 2 with (first | (go_at_call 62; (with_reducible refine (djones_any br _ (RdEx.of hr0 (by omega))).mono ?_); rintro e w1 ⟨x1, rfl, ⟨hu, hX⟩, -⟩; have hrj := hu _ hr0; have hRj := hR0.callX hX; clear hu hX) | (go_at_call 61; (with_reducible refine (sstokesOf_any x1.x x1.y _).mono ?_); rintro e w2 ⟨m1, ok1, rfl, hb⟩; have hrs := hrj.below hb hrj.lt; have hRs := hRj.call hb; clear hb))
  obtain ⟨b3, hb3⟩ : ∃ b, b = w2.heap.size := ⟨_, rfl⟩
  obtain ⟨W3, hW3, hRW3, hrW3⟩ : ∃ W, W = w2.alloc (.cells #[.int .i64 m1.a.re, .int .i64 m1.a.im, .int .i64 m1.a.den, .int .i64 m1.b.re, .int .i64 m1.b.im, .int .i64 m1.b.den, .int .i64 m1.c.re, .int .i64 m1.c.im, .int .i64 m1.c.den, .int .i64 m1.d.re, .int .i64 m1.d.im, .int .i64 m1.d.den] 28) ∧ RB w br (_ ++ [(b3, mtc m1, 28)]) W ∧ RdIs W br (k0 + 17) := ⟨_, rfl, by rw [hb3]; exact hRs.alloc, hrs.alloc _⟩
  rw [← hW3, ← hb3]
  clear hW3 hb3 hrj hRj hrs hRs hR0 hr0
  cases ok1
  · skip
    go_upto_region 9 with fail
    obtain ⟨b9, hb9⟩ : ∃ b, b = W3.heap.size := ⟨_, rfl⟩
    obtain ⟨W9, hW9, hR9, hr9, hQ9, hl9⟩ : ∃ W, W = W3.alloc (.cells #[.int .i64 0, .int .i64 0, .int .i64 0, .int .i64 0, .int .i64 0, .int .i64 0, .int .i64 0, .int .i64 0, .int .i64 0, .int .i64 0, .int .i64 0, .int .i64 0] 28) ∧ RB w br ([] ++ [(w.heap.size, #[.int .i64 0, .int .i64 0, .int .i64 0, .int .i64 0, .int .i64 0, .int .i64 0, .int .i64 0, .int .i64 0, .int .i64 0, .int .i64 0, .int .i64 0, .int .i64 0], 28)]) W ∧ RdIs W br (k0 + 17) ∧ Blk W b9 (tbc (row4 zM4)) 28 ∧ w.heap.size < b9 := by
      have h := (hRW3.alloc (cs := #[.int .i64 0, .int .i64 0, .int .i64 0, .int .i64 0, .int .i64 0, .int .i64 0, .int .i64 0, .int .i64 0, .int .i64 0, .int .i64 0, .int .i64 0, .int .i64 0]) (ty := 28))
      have hl := blk_lt (hRW3.at (b := w.heap.size) (cs := #[.int .i64 0, .int .i64 0, .int .i64 0, .int .i64 0, .int .i64 0, .int .i64 0, .int .i64 0, .int .i64 0, .int .i64 0, .int .i64 0, .int .i64 0, .int .i64 0]) (ty := 28) (by simp))
      exact ⟨_, rfl, ⟨h.X, fun q hq => h.g q (by simp at hq ⊢; simp [hq]), h.l⟩, hrW3.alloc _, by rw [hb9]; exact heap_alloc_last W3 _, by omega⟩
    rw [← hW9, ← hb9]
    clear hW9 hb9 hRW3 hrW3
    go_wp2
    go_loopw [10] (fun i wr => ∃ (k : Nat) (xs : List Fr), k ≤ 4 ∧ i = .int .i64 k ∧ xs.length = 4 ∧ Blk wr b9 (tbc xs) 28 ∧ RB w br ([] ++ [(w.heap.size, #[.int .i64 0, .int .i64 0, .int .i64 0, .int .i64 0, .int .i64 0, .int .i64 0, .int .i64 0, .int .i64 0, .int .i64 0, .int .i64 0, .int .i64 0, .int .i64 0], 28)]) wr ∧ RdIs wr br (k0 + 17 + 12 * k)) (fun i _ => 4 - (intOf i).toNat)
    case atStart => exact ⟨0, _, by omega, rfl, rfl, hQ9, hR9, hr9⟩
    case round =>
      clear hQ9 hR9 hr9
      rename World => wo
      obtain ⟨k, xs, hk, rfl, hxl, hQ, hR, hr⟩ := hrel
      by_cases hk4 : k < 4
      · have hki : (k : Int) < 4 := by omega
        have hki0 : (0 : Int) ≤ (k : Int) := by omega
        have HXL := Lib.hid hxl
        clear hxl
        go_wp2_with (go_at_call 56; (with_reducible refine (dreal_any br _ (RdEx.of hr (by omega))).mono ?_); rintro e w5 ⟨x, rfl, ⟨hu, hX⟩, -⟩; refine Hid.out ?_)
        refine Lib.hid ?_
        have hr5 := hu _ hr
        have hR5 := hR.callX hX
        have hQ5 := (hX.block _ (blk_lt hQ) (by omega)).trans hQ
        have hlo := blk_lt hQ5
        obtain ⟨e0, e1, e2⟩ := blk_get hQ5 (i := k) (by rw [HXL.out]; exact hk4)
        have e3 := blk_free hQ5
        clear hu hX hr hR hQ
        go_wp2
        go_roundw
        case rel => exact ⟨k + 1, xs.set k x, by omega, by go_num, by rw [List.length_set]; exact HXL.out, blk_put hQ5 (by rw [HXL.out]; exact hk4) x, ((hR5.far hl9 _ _).far hl9 _ _).far hl9 _ _, (((hr5.far (p := ⟨b9, k * 3, none⟩) (by show br < b9; omega) _).far (p := ⟨b9, k * 3 + 1, none⟩) (by show br < b9; omega) _).far (p := ⟨b9, k * 3 + 2, none⟩) (by show br < b9; omega) _).mono (by omega)⟩
        case measure => first | (simp [intOf]; done) | (simp [intOf]; omega)
      · obtain rfl : k = 4 := by omega
        obtain ⟨m9, rfl⟩ := row_len4 hxl
        have hQm : Blk wo b9 (mtc m9) 28 := hQ
        clear hQ hxl
        have hPr := hR.at (b := w.heap.size) (cs := #[.int .i64 0, .int .i64 0, .int .i64 0, .int .i64 0, .int .i64 0, .int .i64 0, .int .i64 0, .int .i64 0, .int .i64 0, .int .i64 0, .int .i64 0, .int .i64 0]) (ty := 28) (by simp)
        have hX9 := hR.X
        go_wp2_with (first | (refine wpList_load_row rfl 28 _ rfl b9 rfl 28 (mtc m9) (0, 0) _ hQm Tryz.underlying28 rfl (szStkD m9) ?_) | (refine wpList_store_row rfl 28 _ _ rfl w.heap.size (mtc m9) rfl rfl 28 (#[.int .i64 0, .int .i64 0, .int .i64 0, .int .i64 0, .int .i64 0, .int .i64 0, .int .i64 0, .int .i64 0, .int .i64 0, .int .i64 0, .int .i64 0, .int .i64 0]) hPr (szStkD m9) rfl (mtc_one m9) ?_))
        obtain ⟨WF, hWF, hF, hX, hrF⟩ : ∃ W, W = World.setRow wo w.heap.size (mtc m9) ∧ Blk W w.heap.size (mtc m9) 28 ∧ BelX w.heap.size br w W ∧ RdIs W br (k0 + 17 + 12 * 4) := ⟨_, rfl, setRow_heap _ _ _ _ _ _ hPr, belX_setRow hX9 (Nat.le_refl _) _, hr.below (below_setRow (Below.refl w.heap.size wo) (Nat.le_refl _) _) hlt⟩
        rw [← hWF]
        clear hWF hPr hX9
        obtain ⟨p0, p1, p2, p3, p4, p5, p6, p7, p8, p9, p10, p11⟩ := blk_m hF
        exact bodyPost_ret (v := mtv m9) (by simp [results, Tryz.results23, mtv, go_sem, *]) rfl ⟨m9, rfl, drw_mk hmin (hrF.mono (by omega)) hX, trivial⟩
  go_upto_region 2 with fail
  go_wp2_with (go_at_call 22; (with_reducible refine (pick_any 3 br _ (RdEx.of hrW3 (by omega)) (by omega) (by omega)).mono ?_); rintro e w4 ⟨y1, rfl, ⟨hu, hX⟩, hy0, hy1⟩; refine Hid.out ?_)
  refine Lib.hid ?_
  have hr4 := hu _ hrW3
  have hR4 := hRW3.callX hX
  clear hu hX hrW3 hRW3
  by_cases hy : 0 < y1
  · skip
    go_upto_region 4 with (first | (go_at_call 62; (with_reducible refine (djones_any br _ (RdEx.of hr4 (by omega))).mono ?_); rintro e w5 ⟨x2, rfl, ⟨hu, hX⟩, -⟩; have hrj := hu _ hr4; have hRj := hR4.callX hX; clear hu hX) | (go_at_call 61; (with_reducible refine (sstokesOf_any x2.x x2.y _).mono ?_); rintro e w6 ⟨m2, ok2, rfl, hb⟩; have hrs := hrj.below hb hrj.lt; have hRs := hRj.call hb; clear hb))
    obtain ⟨b5, hb5⟩ : ∃ b, b = w6.heap.size := ⟨_, rfl⟩
    obtain ⟨W6, hW6, hRW6, hrW6⟩ : ∃ W, W = w6.alloc (.cells #[.int .i64 m2.a.re, .int .i64 m2.a.im, .int .i64 m2.a.den, .int .i64 m2.b.re, .int .i64 m2.b.im, .int .i64 m2.b.den, .int .i64 m2.c.re, .int .i64 m2.c.im, .int .i64 m2.c.den, .int .i64 m2.d.re, .int .i64 m2.d.im, .int .i64 m2.d.den] 28) ∧ RB w br (_ ++ [(b5, mtc m2, 28)]) W ∧ RdIs W br (k0 + 17 + 1 + 17) := ⟨_, rfl, by rw [hb5]; exact hRs.alloc, hrs.alloc _⟩
    rw [← hW6, ← hb5]
    clear hW6 hb5 hrj hRj hrs hRs hR4 hr4
    obtain ⟨p0, p1, p2, p3, p4, p5, p6, p7, p8, p9, p10, p11⟩ := blk_m (hRW6.at (b := b3) (cs := mtc m1) (ty := 28) (by simp))
    obtain ⟨q0, q1, q2, q3, q4, q5, q6, q7, q8, q9, q10, q11⟩ := blk_m (hRW6.at (b := b5) (cs := mtc m2) (ty := 28) (by simp))
    go_upto_region 5 with (first | (go_at_call 63; (with_reducible refine (sstokesAdd_e m1 m2 _).mono ?_); rintro e w7 ⟨m3, ok3, rfl, hb⟩))
    have hr7 := hrW6.below hb hrW6.lt
    have hR7 := hRW6.call hb
    obtain ⟨b7, hb7⟩ : ∃ b, b = w7.heap.size := ⟨_, rfl⟩
    obtain ⟨W7, hW7, hRW7, hrW7⟩ : ∃ W, W = w7.alloc (.cells #[.int .i64 m3.a.re, .int .i64 m3.a.im, .int .i64 m3.a.den, .int .i64 m3.b.re, .int .i64 m3.b.im, .int .i64 m3.b.den, .int .i64 m3.c.re, .int .i64 m3.c.im, .int .i64 m3.c.den, .int .i64 m3.d.re, .int .i64 m3.d.im, .int .i64 m3.d.den] 28) ∧ RB w br (_ ++ [(b7, mtc m3, 28)]) W ∧ RdIs W br (k0 + 17 + 1 + 17) := ⟨_, rfl, by rw [hb7]; exact hR7.alloc, hr7.alloc _⟩
    rw [← hW7, ← hb7]
    clear hW7 hb7 hb hr7 hR7 hRW6 hrW6 p0 p1 p2 p3 p4 p5 p6 p7 p8 p9 p10 p11 q0 q1 q2 q3 q4 q5 q6 q7 q8 q9 q10 q11
    have hQ3 := hRW7.at (b := b3) (cs := mtc m1) (ty := 28) (by simp)
    have hQ7 := hRW7.at (b := b7) (cs := mtc m3) (ty := 28) (by simp)
    cases ok2
    · skip
      have hPr := hRW7.at (b := w.heap.size) (cs := #[.int .i64 0, .int .i64 0, .int .i64 0, .int .i64 0, .int .i64 0, .int .i64 0, .int .i64 0, .int .i64 0, .int .i64 0, .int .i64 0, .int .i64 0, .int .i64 0]) (ty := 28) (by simp)
      have hX9 := hRW7.X
      go_wp2_with (first | (refine wpList_load_row rfl 28 _ rfl b3 rfl 28 (mtc m1) (0, 0) _ hQ3 Tryz.underlying28 rfl (szStkD m1) ?_) | (refine wpList_store_row rfl 28 _ _ rfl w.heap.size (mtc m1) rfl rfl 28 (#[.int .i64 0, .int .i64 0, .int .i64 0, .int .i64 0, .int .i64 0, .int .i64 0, .int .i64 0, .int .i64 0, .int .i64 0, .int .i64 0, .int .i64 0, .int .i64 0]) hPr (szStkD m1) rfl (mtc_one m1) ?_))
      obtain ⟨WF, hWF, hF, hX, hrF⟩ : ∃ W, W = World.setRow W7 w.heap.size (mtc m1) ∧ Blk W w.heap.size (mtc m1) 28 ∧ BelX w.heap.size br w W ∧ RdIs W br (k0 + 17 + 1 + 17) := ⟨_, rfl, setRow_heap _ _ _ _ _ _ hPr, belX_setRow hX9 (Nat.le_refl _) _, hrW7.below (below_setRow (Below.refl w.heap.size W7) (Nat.le_refl _) _) hlt⟩
      rw [← hWF]
      clear hWF hPr hX9
      obtain ⟨p0, p1, p2, p3, p4, p5, p6, p7, p8, p9, p10, p11⟩ := blk_m hF
      exact bodyPost_ret (v := mtv m1) (by simp [results, Tryz.results23, mtv, go_sem, *]) rfl ⟨m1, rfl, drw_mk hmin (hrF.mono (by omega)) hX, trivial⟩
    cases ok3
    · skip
      have hPr := hRW7.at (b := w.heap.size) (cs := #[.int .i64 0, .int .i64 0, .int .i64 0, .int .i64 0, .int .i64 0, .int .i64 0, .int .i64 0, .int .i64 0, .int .i64 0, .int .i64 0, .int .i64 0, .int .i64 0]) (ty := 28) (by simp)
      have hX9 := hRW7.X
      go_wp2_with (first | (refine wpList_load_row rfl 28 _ rfl b3 rfl 28 (mtc m1) (0, 0) _ hQ3 Tryz.underlying28 rfl (szStkD m1) ?_) | (refine wpList_store_row rfl 28 _ _ rfl w.heap.size (mtc m1) rfl rfl 28 (#[.int .i64 0, .int .i64 0, .int .i64 0, .int .i64 0, .int .i64 0, .int .i64 0, .int .i64 0, .int .i64 0, .int .i64 0, .int .i64 0, .int .i64 0, .int .i64 0]) hPr (szStkD m1) rfl (mtc_one m1) ?_))
      obtain ⟨WF, hWF, hF, hX, hrF⟩ : ∃ W, W = World.setRow W7 w.heap.size (mtc m1) ∧ Blk W w.heap.size (mtc m1) 28 ∧ BelX w.heap.size br w W ∧ RdIs W br (k0 + 17 + 1 + 17) := ⟨_, rfl, setRow_heap _ _ _ _ _ _ hPr, belX_setRow hX9 (Nat.le_refl _) _, hrW7.below (below_setRow (Below.refl w.heap.size W7) (Nat.le_refl _) _) hlt⟩
      rw [← hWF]
      clear hWF hPr hX9
      obtain ⟨p0, p1, p2, p3, p4, p5, p6, p7, p8, p9, p10, p11⟩ := blk_m hF
      exact bodyPost_ret (v := mtv m1) (by simp [results, Tryz.results23, mtv, go_sem, *]) rfl ⟨m1, rfl, drw_mk hmin (hrF.mono (by omega)) hX, trivial⟩
    go_wp2_with (go_at_call 22; (with_reducible refine (pick_any 2 br _ (RdEx.of hrW7 (by omega)) (by omega) (by omega)).mono ?_); rintro e w8 ⟨y2, rfl, ⟨hu, hX⟩, hz0, hz1⟩; refine Hid.out ?_)
    refine Lib.hid ?_
    have hr8 := hu _ hrW7
    have hR8 := hRW7.callX hX
    clear hu hX hrW7 hRW7 hQ3 hQ7
    have hQ3 := hR8.at (b := b3) (cs := mtc m1) (ty := 28) (by simp)
    have hQ7 := hR8.at (b := b7) (cs := mtc m3) (ty := 28) (by simp)
    by_cases hy2 : y2 = 0
    · subst hy2
      have hPr := hR8.at (b := w.heap.size) (cs := #[.int .i64 0, .int .i64 0, .int .i64 0, .int .i64 0, .int .i64 0, .int .i64 0, .int .i64 0, .int .i64 0, .int .i64 0, .int .i64 0, .int .i64 0, .int .i64 0]) (ty := 28) (by simp)
      have hX9 := hR8.X
      go_wp2_with (first | (refine wpList_load_row rfl 28 _ rfl b7 rfl 28 (mtc m3) (0, 0) _ hQ7 Tryz.underlying28 rfl (szStkD m3) ?_) | (refine wpList_store_row rfl 28 _ _ rfl w.heap.size (mtc m3) rfl rfl 28 (#[.int .i64 0, .int .i64 0, .int .i64 0, .int .i64 0, .int .i64 0, .int .i64 0, .int .i64 0, .int .i64 0, .int .i64 0, .int .i64 0, .int .i64 0, .int .i64 0]) hPr (szStkD m3) rfl (mtc_one m3) ?_))
      obtain ⟨WF, hWF, hF, hX, hrF⟩ : ∃ W, W = World.setRow w8 w.heap.size (mtc m3) ∧ Blk W w.heap.size (mtc m3) 28 ∧ BelX w.heap.size br w W ∧ RdIs W br (k0 + 17 + 1 + 17 + 1) := ⟨_, rfl, setRow_heap _ _ _ _ _ _ hPr, belX_setRow hX9 (Nat.le_refl _) _, hr8.below (below_setRow (Below.refl w.heap.size w8) (Nat.le_refl _) _) hlt⟩
      rw [← hWF]
      clear hWF hPr hX9
      obtain ⟨p0, p1, p2, p3, p4, p5, p6, p7, p8, p9, p10, p11⟩ := blk_m hF
      exact bodyPost_ret (v := mtv m3) (by simp [results, Tryz.results23, mtv, go_sem, *]) rfl ⟨m3, rfl, drw_mk hmin (hrF.mono (by omega)) hX, trivial⟩
    · have hyb : (y2 == 0) = false := by simpa using hy2
      have hPr := hR8.at (b := w.heap.size) (cs := #[.int .i64 0, .int .i64 0, .int .i64 0, .int .i64 0, .int .i64 0, .int .i64 0, .int .i64 0, .int .i64 0, .int .i64 0, .int .i64 0, .int .i64 0, .int .i64 0]) (ty := 28) (by simp)
      have hX9 := hR8.X
      go_wp2_with (first | (refine wpList_load_row rfl 28 _ rfl b3 rfl 28 (mtc m1) (0, 0) _ hQ3 Tryz.underlying28 rfl (szStkD m1) ?_) | (refine wpList_store_row rfl 28 _ _ rfl w.heap.size (mtc m1) rfl rfl 28 (#[.int .i64 0, .int .i64 0, .int .i64 0, .int .i64 0, .int .i64 0, .int .i64 0, .int .i64 0, .int .i64 0, .int .i64 0, .int .i64 0, .int .i64 0, .int .i64 0]) hPr (szStkD m1) rfl (mtc_one m1) ?_))
      obtain ⟨WF, hWF, hF, hX, hrF⟩ : ∃ W, W = World.setRow w8 w.heap.size (mtc m1) ∧ Blk W w.heap.size (mtc m1) 28 ∧ BelX w.heap.size br w W ∧ RdIs W br (k0 + 17 + 1 + 17 + 1) := ⟨_, rfl, setRow_heap _ _ _ _ _ _ hPr, belX_setRow hX9 (Nat.le_refl _) _, hr8.below (below_setRow (Below.refl w.heap.size w8) (Nat.le_refl _) _) hlt⟩
      rw [← hWF]
      clear hWF hPr hX9
      obtain ⟨p0, p1, p2, p3, p4, p5, p6, p7, p8, p9, p10, p11⟩ := blk_m hF
      exact bodyPost_ret (v := mtv m1) (by simp [results, Tryz.results23, mtv, go_sem, *]) rfl ⟨m1, rfl, drw_mk hmin (hrF.mono (by omega)) hX, trivial⟩
  · skip
    go_upto_region 9 with fail
    obtain ⟨b9, hb9⟩ : ∃ b, b = w4.heap.size := ⟨_, rfl⟩
    obtain ⟨W9, hW9, hR9, hr9, hQ9, hl9⟩ : ∃ W, W = w4.alloc (.cells #[.int .i64 0, .int .i64 0, .int .i64 0, .int .i64 0, .int .i64 0, .int .i64 0, .int .i64 0, .int .i64 0, .int .i64 0, .int .i64 0, .int .i64 0, .int .i64 0] 28) ∧ RB w br ([] ++ [(w.heap.size, #[.int .i64 0, .int .i64 0, .int .i64 0, .int .i64 0, .int .i64 0, .int .i64 0, .int .i64 0, .int .i64 0, .int .i64 0, .int .i64 0, .int .i64 0, .int .i64 0], 28)]) W ∧ RdIs W br (k0 + 17 + 1) ∧ Blk W b9 (tbc (row4 zM4)) 28 ∧ w.heap.size < b9 := by
      have h := (hR4.alloc (cs := #[.int .i64 0, .int .i64 0, .int .i64 0, .int .i64 0, .int .i64 0, .int .i64 0, .int .i64 0, .int .i64 0, .int .i64 0, .int .i64 0, .int .i64 0, .int .i64 0]) (ty := 28))
      have hl := blk_lt (hR4.at (b := w.heap.size) (cs := #[.int .i64 0, .int .i64 0, .int .i64 0, .int .i64 0, .int .i64 0, .int .i64 0, .int .i64 0, .int .i64 0, .int .i64 0, .int .i64 0, .int .i64 0, .int .i64 0]) (ty := 28) (by simp))
      exact ⟨_, rfl, ⟨h.X, fun q hq => h.g q (by simp at hq ⊢; simp [hq]), h.l⟩, hr4.alloc _, by rw [hb9]; exact heap_alloc_last w4 _, by omega⟩
    rw [← hW9, ← hb9]
    clear hW9 hb9 hR4 hr4
    go_wp2
    go_loopw [10] (fun i wr => ∃ (k : Nat) (xs : List Fr), k ≤ 4 ∧ i = .int .i64 k ∧ xs.length = 4 ∧ Blk wr b9 (tbc xs) 28 ∧ RB w br ([] ++ [(w.heap.size, #[.int .i64 0, .int .i64 0, .int .i64 0, .int .i64 0, .int .i64 0, .int .i64 0, .int .i64 0, .int .i64 0, .int .i64 0, .int .i64 0, .int .i64 0, .int .i64 0], 28)]) wr ∧ RdIs wr br (k0 + 17 + 1 + 12 * k)) (fun i _ => 4 - (intOf i).toNat)
    case atStart => exact ⟨0, _, by omega, rfl, rfl, hQ9, hR9, hr9⟩
    case round =>
      clear hQ9 hR9 hr9
      rename World => wo
      obtain ⟨k, xs, hk, rfl, hxl, hQ, hR, hr⟩ := hrel
      by_cases hk4 : k < 4
      · have hki : (k : Int) < 4 := by omega
        have hki0 : (0 : Int) ≤ (k : Int) := by omega
        have HXL := Lib.hid hxl
        clear hxl
        go_wp2_with (go_at_call 56; (with_reducible refine (dreal_any br _ (RdEx.of hr (by omega))).mono ?_); rintro e w5 ⟨x, rfl, ⟨hu, hX⟩, -⟩; refine Hid.out ?_)
        refine Lib.hid ?_
        have hr5 := hu _ hr
        have hR5 := hR.callX hX
        have hQ5 := (hX.block _ (blk_lt hQ) (by omega)).trans hQ
        have hlo := blk_lt hQ5
        obtain ⟨e0, e1, e2⟩ := blk_get hQ5 (i := k) (by rw [HXL.out]; exact hk4)
        have e3 := blk_free hQ5
        clear hu hX hr hR hQ
        go_wp2
        go_roundw
        case rel => exact ⟨k + 1, xs.set k x, by omega, by go_num, by rw [List.length_set]; exact HXL.out, blk_put hQ5 (by rw [HXL.out]; exact hk4) x, ((hR5.far hl9 _ _).far hl9 _ _).far hl9 _ _, (((hr5.far (p := ⟨b9, k * 3, none⟩) (by show br < b9; omega) _).far (p := ⟨b9, k * 3 + 1, none⟩) (by show br < b9; omega) _).far (p := ⟨b9, k * 3 + 2, none⟩) (by show br < b9; omega) _).mono (by omega)⟩
        case measure => first | (simp [intOf]; done) | (simp [intOf]; omega)
      · obtain rfl : k = 4 := by omega
        obtain ⟨m9, rfl⟩ := row_len4 hxl
        have hQm : Blk wo b9 (mtc m9) 28 := hQ
        clear hQ hxl
        have hPr := hR.at (b := w.heap.size) (cs := #[.int .i64 0, .int .i64 0, .int .i64 0, .int .i64 0, .int .i64 0, .int .i64 0, .int .i64 0, .int .i64 0, .int .i64 0, .int .i64 0, .int .i64 0, .int .i64 0]) (ty := 28) (by simp)
        have hX9 := hR.X
        go_wp2_with (first | (refine wpList_load_row rfl 28 _ rfl b9 rfl 28 (mtc m9) (0, 0) _ hQm Tryz.underlying28 rfl (szStkD m9) ?_) | (refine wpList_store_row rfl 28 _ _ rfl w.heap.size (mtc m9) rfl rfl 28 (#[.int .i64 0, .int .i64 0, .int .i64 0, .int .i64 0, .int .i64 0, .int .i64 0, .int .i64 0, .int .i64 0, .int .i64 0, .int .i64 0, .int .i64 0, .int .i64 0]) hPr (szStkD m9) rfl (mtc_one m9) ?_))
        obtain ⟨WF, hWF, hF, hX, hrF⟩ : ∃ W, W = World.setRow wo w.heap.size (mtc m9) ∧ Blk W w.heap.size (mtc m9) 28 ∧ BelX w.heap.size br w W ∧ RdIs W br (k0 + 17 + 1 + 12 * 4) := ⟨_, rfl, setRow_heap _ _ _ _ _ _ hPr, belX_setRow hX9 (Nat.le_refl _) _, hr.below (below_setRow (Below.refl w.heap.size wo) (Nat.le_refl _) _) hlt⟩
        rw [← hWF]
        clear hWF hPr hX9
        obtain ⟨p0, p1, p2, p3, p4, p5, p6, p7, p8, p9, p10, p11⟩ := blk_m hF
        exact bodyPost_ret (v := mtv m9) (by simp [results, Tryz.results23, mtv, go_sem, *]) rfl ⟨m9, rfl, drw_mk hmin (hrF.mono (by omega)) hX, trivial⟩
end
section
open Go.RowKit
attribute [local go_sem ↓] Go.wp_at_zero Go.wp_at_succ
theorem OwA.rowT {base : Nat} {v : Value} {xs : List Sta} {W : World} (h : OwA base v xs W) {b : Nat} (hb : ∀ k, v.ownBlock = some k → k ≠ b) (cs : Array Value) : OwA base v xs (W.setRow b cs) := by
  refine ⟨h.1, ?_⟩
  rcases h.2 with hn | ⟨g, cap, cur, rfl, hbg, hg, rest⟩
  · exact .inl hn
  · exact .inr ⟨g, cap, cur, rfl, hbg, (setRow_far W b g cs (hb g rfl)).trans hg, rest⟩
set_option maxRecDepth 100000 in
set_option maxHeartbeats 8000000 in
theorem drawMeterRead_any (A : Option Addr) (len cap : Nat) (w : World) (hby : Bytes A len cap w) :
    Calls Tryz.prog 6 #[.slice A len cap] w fun e w' => ∃ (xs : List Sta) (m : Mt) (v : Value), e = .returned (.tuple #[v, mtv m]) ∧ (OwA w.heap.size v xs w' ∧ xs.length ≤ 5) ∧ Below w.heap.size w w' := by
  go_enter Tryz.func6, Tryz.ntmps6
  obtain ⟨W0, hW0, hZ0, hB0, hs0⟩ : ∃ W, W = w.alloc (.cells #[.int .i64 0, .int .i64 0, .int .i64 0, .int .i64 0, .int .i64 0, .int .i64 0, .int .i64 0, .int .i64 0, .int .i64 0, .int .i64 0, .int .i64 0, .int .i64 0] 28) ∧ Blk W w.heap.size #[.int .i64 0, .int .i64 0, .int .i64 0, .int .i64 0, .int .i64 0, .int .i64 0, .int .i64 0, .int .i64 0, .int .i64 0, .int .i64 0, .int .i64 0, .int .i64 0] 28 ∧ Below w.heap.size w W ∧ W.heap.size = w.heap.size + 1 := ⟨_, rfl, heap_alloc_last w _, (Below.refl _ _).alloc (Nat.le_refl _) _, by simp⟩
  have hs1 := hs0.symm
  go_upto_region 1 with fail
  rw [← hW0]
  clear hW0 hs0
  have hsz : w.heap.size < W0.heap.size := by omega
  clear hs1
  go_wp2_with (go_at_call 20; (with_reducible refine (openB A len cap _ W0.heap.size rfl (hby.below hB0)).mono ?_); rintro e w1 ⟨rfl, hr1, hb⟩; refine Hid.out ?_)
  refine Lib.hid ?_
  have hZ1 := (hb.block _ (blk_lt hZ0)).trans hZ0
  have hC1 : Below W0.heap.size W0 w1 := hb
  have hlt := hr1.lt
  clear hb hZ0
  go_wp2_with (go_at_call 21; (with_reducible refine (dstations_any W0.heap.size _ (RdEx.of hr1 (by omega))).mono ?_); rintro e w2 ⟨xs, v, rfl, ⟨hO, hxl⟩, ⟨hu, hX⟩⟩; refine Hid.out ?_)
  refine Lib.hid ?_
  have hr2 := hu _ hr1
  have hZ2 := (hX.block _ (blk_lt hZ1) (by omega)).trans hZ1
  have hC2 : Below W0.heap.size W0 w2 := (BelX.step (BelX.of hC1) hX hC1.size).below (Nat.le_refl _)
  obtain ⟨A2, c2, rfl, -⟩ := hO.frs
  clear hu hX hr1 hC1 hZ1
  go_wp2_with (go_at_call 22; (with_reducible refine (pick_any 3 W0.heap.size _ (RdEx.of hr2 (by omega)) (by omega) (by omega)).mono ?_); rintro e w3 ⟨x, rfl, ⟨hu, hX⟩, hx0, hx1⟩; refine Hid.out ?_)
  refine Lib.hid ?_
  have hr3 := hu _ hr2
  have hZ3 := (hX.block _ (blk_lt hZ2) (by omega)).trans hZ2
  have hO3 := hO.belX hX (by omega)
  have hC3 : Below W0.heap.size W0 w3 := (BelX.step (BelX.of hC2) hX hC2.size).below (Nat.le_refl _)
  clear hu hX hr2 hZ2 hC2 hO
  by_cases hx : x = 0
  · subst hx
    go_wp2_with (first | (go_at_call 23; (with_reducible refine (dstokes_any W0.heap.size _ (RdEx.of hr3 (by omega))).mono ?_); rintro e w4 ⟨m, rfl, ⟨-, hX⟩, -⟩; have hZ4 := (hX.block _ (blk_lt hZ3) (by omega)).trans hZ3; have hO4 := hO3.belX hX (by omega); have hC4 : Below W0.heap.size W0 w4 := (BelX.step (BelX.of hC3) hX hC3.size).below (Nat.le_refl _); clear hX) | (refine wpList_store_row rfl 28 _ _ rfl w.heap.size (mtc m) rfl rfl 28 (#[.int .i64 0, .int .i64 0, .int .i64 0, .int .i64 0, .int .i64 0, .int .i64 0, .int .i64 0, .int .i64 0, .int .i64 0, .int .i64 0, .int .i64 0, .int .i64 0]) hZ4 (szStkD m) rfl (mtc_one m) ?_))
    obtain ⟨WF, hWF, hF, hOF, hBF⟩ : ∃ W, W = World.setRow w4 w.heap.size (mtc m) ∧ Blk W w.heap.size (mtc m) 28 ∧ OwA w1.heap.size _ xs W ∧ Below w.heap.size w W :=
      ⟨_, rfl, setRow_heap _ _ _ _ _ _ hZ4, OwA.rowT hO4 (fun k e => by have := (hO4.lt k e).1; omega) _, below_setRow (hB0.trans (hC4.mono hB0.size)) (Nat.le_refl _) _⟩
    rw [← hWF]
    clear hWF hZ4 hO4 hC4 hZ3 hO3 hC3
    obtain ⟨p0, p1, p2, p3, p4, p5, p6, p7, p8, p9, p10, p11⟩ := blk_m hF
    exact bodyPost_ret (v := .tuple #[.slice A2 xs.length c2, mtv m]) (by simp [results, Tryz.results6, mtv, go_sem, *]) rfl ⟨xs, m, _, rfl, ⟨hOF.mono (by omega), hxl⟩, hBF⟩
  · have hxb : (x == 0) = false := by simpa using hx
    go_wp2_with (first | (go_at_call 24; (with_reducible refine (dlight_any W0.heap.size _ (RdEx.of hr3 (by omega))).mono ?_); rintro e w4 ⟨m, rfl, ⟨-, hX⟩, -⟩; have hZ4 := (hX.block _ (blk_lt hZ3) (by omega)).trans hZ3; have hO4 := hO3.belX hX (by omega); have hC4 : Below W0.heap.size W0 w4 := (BelX.step (BelX.of hC3) hX hC3.size).below (Nat.le_refl _); clear hX) | (refine wpList_store_row rfl 28 _ _ rfl w.heap.size (mtc m) rfl rfl 28 (#[.int .i64 0, .int .i64 0, .int .i64 0, .int .i64 0, .int .i64 0, .int .i64 0, .int .i64 0, .int .i64 0, .int .i64 0, .int .i64 0, .int .i64 0, .int .i64 0]) hZ4 (szStkD m) rfl (mtc_one m) ?_))
    obtain ⟨WF, hWF, hF, hOF, hBF⟩ : ∃ W, W = World.setRow w4 w.heap.size (mtc m) ∧ Blk W w.heap.size (mtc m) 28 ∧ OwA w1.heap.size _ xs W ∧ Below w.heap.size w W :=
      ⟨_, rfl, setRow_heap _ _ _ _ _ _ hZ4, OwA.rowT hO4 (fun k e => by have := (hO4.lt k e).1; omega) _, below_setRow (hB0.trans (hC4.mono hB0.size)) (Nat.le_refl _) _⟩
    rw [← hWF]
    clear hWF hZ4 hO4 hC4 hZ3 hO3 hC3
    obtain ⟨p0, p1, p2, p3, p4, p5, p6, p7, p8, p9, p10, p11⟩ := blk_m hF
    exact bodyPost_ret (v := .tuple #[.slice A2 xs.length c2, mtv m]) (by simp [results, Tryz.results6, mtv, go_sem, *]) rfl ⟨xs, m, _, rfl, ⟨hOF.mono (by omega), hxl⟩, hBF⟩
end
end Go.Proofs.YtodhbkinbcemnaaGreatDoor
