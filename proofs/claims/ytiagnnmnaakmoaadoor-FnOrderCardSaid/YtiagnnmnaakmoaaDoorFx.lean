/-
  The matrix of a fibre: plain definitions, and a matrix that is written over another.
-/
import Derived.Test.YtiagnnmnaakmoaaDoorNe
import Derived.Test.YtiagnnmnaakmoaaDoorBk
namespace Go.Proofs.YtiagnnmnaakmoaaDoor
set_option linter.unusedSimpArgs false
set_option linter.unusedVariables false
open Go.RowKit
attribute [local go_sem ↓] Go.wp_at_zero Go.wp_at_succ
def oneM : Mt := ⟨⟨1, 0, 1⟩, ⟨0, 0, 1⟩, ⟨0, 0, 1⟩, ⟨1, 0, 1⟩⟩
def zM : Mt := ⟨⟨0, 0, 0⟩, ⟨0, 0, 0⟩, ⟨0, 0, 0⟩, ⟨0, 0, 0⟩⟩
/-- A matrix n times ahead of another. -/
def mulN (pl : Mt) : Nat → Mt → Option Mt
  | 0, m => some m
  | n + 1, m => (mulN pl n m).bind (mtimesI pl)
def fibStep (o : Option Mt) (s : Sec) : Option Mt := o.bind fun m => (plateI s.p s.q s.ph).bind fun pl => mulN pl s.t.toNat m
def fibK (xs : List Sec) (k : Nat) : Option Mt := (xs.take k).foldl fibStep (some oneM)
def fibMatI (xs : List Sec) : Option Mt := if fibOk xs then fibK xs xs.length else none
theorem fibK_succ {xs : List Sec} {k : Nat} {s : Sec} (h : xs[k]? = some s) : fibK xs (k + 1) = fibStep (fibK xs k) s := by
  rw [fibK, List.take_add_one, h, List.foldl_append]; rfl
theorem mulN_none {pl m : Mt} {j n : Nat} (h : mulN pl j m = none) (hn : j ≤ n) : mulN pl n m = none := by
  induction n with
  | zero => obtain rfl : j = 0 := by omega
            exact h
  | succ n ih =>
    by_cases hj : j = n + 1
    · subst hj; exact h
    · rw [mulN, ih (by omega)]; rfl
theorem fold_none (ys : List Sec) : ys.foldl fibStep none = none := by
  induction ys with
  | nil => rfl
  | cons y ys ih => exact ih
theorem fibK_none {xs : List Sec} {k : Nat} (h : fibK xs k = none) (n : Nat) (hn : k ≤ n) : fibK xs n = none := by
  obtain ⟨d, rfl⟩ := Nat.exists_eq_add_of_le hn
  rw [fibK, List.take_add, List.foldl_append, ← fibK, h, fold_none]
theorem fib_fail {xs : List Sec} {k j : Nat} {s : Sec} {m pl x : Mt} (hf : fibOk xs = true) (hs : xs[k]? = some s) (hm : fibK xs k = some m) (hp : plateI s.p s.q s.ph = some pl) (hj : mulN pl j m = some x) (hjt : j < s.t.toNat) (hx : mtimesI pl x = none) : fibMatI xs = none := by
  have h1 : mulN pl (j + 1) m = none := by rw [mulN, hj]; exact hx
  have h2 := mulN_none h1 (show j + 1 ≤ s.t.toNat by omega)
  have h3 : fibK xs (k + 1) = none := by rw [fibK_succ hs, fibStep, hm]; simp [hp, h2]
  have hl := (List.getElem?_eq_some_iff.1 hs).1
  rw [fibMatI, if_pos hf]
  exact fibK_none h3 _ (by omega)
theorem fib_next {xs : List Sec} {k : Nat} {s : Sec} {m pl x : Mt} (hs : xs[k]? = some s) (hm : fibK xs k = some m) (hp : plateI s.p s.q s.ph = some pl) (hx : mulN pl s.t.toNat m = some x) : fibK xs (k + 1) = some x := by
  rw [fibK_succ hs, fibStep, hm]; simp [hp, hx]
/-- One matrix written over another. -/
abbrev setM (W : World) (b : Nat) (y : Mt) : World := (((((((((((W.setCell ⟨b, 0, none⟩ (.int .i64 y.a.re)).setCell ⟨b, 1, none⟩ (.int .i64 y.a.im)).setCell ⟨b, 2, none⟩ (.int .i64 y.a.den)).setCell ⟨b, 3, none⟩ (.int .i64 y.b.re)).setCell ⟨b, 4, none⟩ (.int .i64 y.b.im)).setCell ⟨b, 5, none⟩ (.int .i64 y.b.den)).setCell ⟨b, 6, none⟩ (.int .i64 y.c.re)).setCell ⟨b, 7, none⟩ (.int .i64 y.c.im)).setCell ⟨b, 8, none⟩ (.int .i64 y.c.den)).setCell ⟨b, 9, none⟩ (.int .i64 y.d.re)).setCell ⟨b, 10, none⟩ (.int .i64 y.d.im)).setCell ⟨b, 11, none⟩ (.int .i64 y.d.den)
theorem setM_cell {W : World} {b : Nat} {y : Mt} {b' o : Nat} (h : b' ≠ b) : (setM W b y).cell? ⟨b', o, none⟩ = W.cell? ⟨b', o, none⟩ := by
  have hne : ∀ i : Nat, (⟨b, i, none⟩ : Addr) ≠ ⟨b', o, none⟩ := fun i e => h (by injection e with e1; exact e1.symm)
  unfold setM
  rw [World.cell?_setCell_other (h := hne _), World.cell?_setCell_other (h := hne _), World.cell?_setCell_other (h := hne _), World.cell?_setCell_other (h := hne _), World.cell?_setCell_other (h := hne _), World.cell?_setCell_other (h := hne _), World.cell?_setCell_other (h := hne _), World.cell?_setCell_other (h := hne _), World.cell?_setCell_other (h := hne _), World.cell?_setCell_other (h := hne _), World.cell?_setCell_other (h := hne _), World.cell?_setCell_other (h := hne _)]
theorem setM_frozen {W : World} {b : Nat} {y : Mt} (a : Addr) : (setM W b y).frozen? a = W.frozen? a := by
  unfold setM
  simp only [World.frozen?_setCell]
theorem setM_at {W : World} {b : Nat} {y x : Mt} (h : MtAt W b x) : MtAt (setM W b y) b y := by
  obtain ⟨h0, h1, h2, h3, h4, h5, h6, h7, h8, h9, h10, h11⟩ := h
  unfold setM
  refine ⟨?_, ?_, ?_, ?_, ?_, ?_, ?_, ?_, ?_, ?_, ?_, ?_⟩ <;> simp [cellSetSame, World.cell?_setCell_other, *]
theorem setM_far {W : World} {b b' : Nat} {y x : Mt} (h : MtAt W b' x) (hne : b' ≠ b) : MtAt (setM W b y) b' x := h.same fun o => setM_cell hne
theorem setM_below {B b : Nat} {w W : World} {y : Mt} (h : Below B w W) (hb : B ≤ b) : Below B w (setM W b y) := by
  unfold setM
  exact ((((((((((((h.setCell (p := ⟨b, 0, none⟩) hb _).setCell (p := ⟨b, 1, none⟩) hb _).setCell (p := ⟨b, 2, none⟩) hb _).setCell (p := ⟨b, 3, none⟩) hb _).setCell (p := ⟨b, 4, none⟩) hb _).setCell (p := ⟨b, 5, none⟩) hb _).setCell (p := ⟨b, 6, none⟩) hb _).setCell (p := ⟨b, 7, none⟩) hb _).setCell (p := ⟨b, 8, none⟩) hb _).setCell (p := ⟨b, 9, none⟩) hb _).setCell (p := ⟨b, 10, none⟩) hb _).setCell (p := ⟨b, 11, none⟩) hb _)
/-- A block that may be written. -/
def FreeB (w : World) (b : Nat) : Prop := ∀ o, w.frozen? ⟨b, o, none⟩ = false
theorem FreeB.below {w w' : World} {b B : Nat} (h : FreeB w b) (hb : Below B w w') (hlt : b < B) : FreeB w' b := fun o => (hb.frozen (p := ⟨b, o, none⟩) hlt).trans (h o)
theorem FreeB.new (w : World) (cs : Array Value) (t : TypeId) : FreeB (w.alloc (.cells cs t)) w.heap.size := fun o => by unfold World.frozen?; rw [show (w.alloc (.cells cs t)).heap[w.heap.size]? = some (.cells cs t (0, 0)) from heap_alloc_new w _]; simp
theorem FreeB.alloc {w : World} {b : Nat} (h : FreeB w b) (hlt : b < w.heap.size) (o : Obj) : FreeB (w.alloc o) b := h.below ((Below.refl _ _).alloc (Nat.le_refl _) o) hlt
theorem FreeB.setM {w : World} {b b' : Nat} {y : Mt} (h : FreeB w b) : FreeB (setM w b' y) b := fun o => (setM_frozen _).trans (h o)
end Go.Proofs.YtiagnnmnaakmoaaDoor
