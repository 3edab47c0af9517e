/-
  The walk of the statement that compares what a fibre makes of light with the reference's: it returns true, for every list and every vector.
-/
import Derived.Test.YtiagnnmnaakmoaaDoorGb
import Derived.Test.YtiagnnmnaakmoaaDoorGc
namespace Go.Proofs.YtiagnnmnaakmoaaDoor
set_option linter.unusedSimpArgs false
set_option linter.unusedVariables false
open Go.RowKit
attribute [local go_sem ↓] Go.wp_at_zero Go.wp_at_succ
theorem JnAt.same {w w' : World} {b : Nat} {m : Jn} (h : JnAt w b m) (hc : ∀ o, w'.cell? ⟨b, o, none⟩ = w.cell? ⟨b, o, none⟩) : JnAt w' b m := by
  unfold JnAt at h ⊢
  simp only [hc]
  exact h
theorem JnAt.lt {w : World} {b : Nat} {m : Jn} (h : JnAt w b m) : b < w.heap.size := World.block_lt_of_cell? w _ h.1
theorem JnAt.below {w w' : World} {b B : Nat} {m : Jn} (h : JnAt w b m) (hb : Below B w w') (hlt : b < B) : JnAt w' b m := h.same fun o => hb.cell (p := ⟨b, o, none⟩) hlt
theorem JnAt.alloc {w : World} {b : Nat} {m : Jn} (h : JnAt w b m) (o : Obj) : JnAt (w.alloc o) b m := h.below ((Below.refl _ _).alloc (Nat.le_refl _) o) h.lt
theorem JnAt.drew {w : World} {b : Nat} {m : Jn} (h : JnAt w b m) : JnAt w.drew b m := h
theorem JnAt.drewN {w : World} {b : Nat} {m : Jn} (h : JnAt w b m) (n : Nat) : JnAt (w.drewN n) b m := h
theorem JnAt.far {w : World} {b : Nat} {m : Jn} (h : JnAt w b m) {p : Addr} (hp : b < p.block) (u : Value) : JnAt (w.setCell p u) b m := h.below ((Below.refl p.block w).setCell (Nat.le_refl _) u) hp
theorem JnAt.new (w : World) (m : Jn) (t : TypeId) : JnAt (w.alloc (.cells #[.int .i64 m.x.re, .int .i64 m.x.im, .int .i64 m.x.den, .int .i64 m.y.re, .int .i64 m.y.im, .int .i64 m.y.den] t)) w.heap.size m :=
  ⟨World.cell?_alloc_at _ _ _ _ rfl, World.cell?_alloc_at _ _ _ _ rfl, World.cell?_alloc_at _ _ _ _ rfl, World.cell?_alloc_at _ _ _ _ rfl, World.cell?_alloc_at _ _ _ _ rfl, World.cell?_alloc_at _ _ _ _ rfl⟩
/-- Both: the light that came in, and the list that was handed over. -/
theorem Secs.alloc {A : Option Addr} {len cap : Nat} {xs : List Sec} {w : World} (h : Secs A len cap xs w) (o : Obj) : Secs A len cap xs (w.alloc o) := h.below ((Below.refl _ _).alloc (Nat.le_refl _) o)
theorem Secs.drew {A : Option Addr} {len cap : Nat} {xs : List Sec} {w : World} (h : Secs A len cap xs w) : Secs A len cap xs w.drew := h
theorem Secs.drewN {A : Option Addr} {len cap : Nat} {xs : List Sec} {w : World} (h : Secs A len cap xs w) (n : Nat) : Secs A len cap xs (w.drewN n) := h
def zJ : Jn := ⟨⟨0, 0, 0⟩, ⟨0, 0, 0⟩⟩
abbrev setJ (W : World) (b : Nat) (y : Jn) : World := (((((W.setCell ⟨b, 0, none⟩ (.int .i64 y.x.re)).setCell ⟨b, 1, none⟩ (.int .i64 y.x.im)).setCell ⟨b, 2, none⟩ (.int .i64 y.x.den)).setCell ⟨b, 3, none⟩ (.int .i64 y.y.re)).setCell ⟨b, 4, none⟩ (.int .i64 y.y.im)).setCell ⟨b, 5, none⟩ (.int .i64 y.y.den)
theorem setJ_cell {W : World} {b : Nat} {y : Jn} {b' o : Nat} (h : b' ≠ b) : (setJ W b y).cell? ⟨b', o, none⟩ = W.cell? ⟨b', o, none⟩ := by
  have hne : ∀ i : Nat, (⟨b, i, none⟩ : Addr) ≠ ⟨b', o, none⟩ := fun i e => h (by injection e with e1; exact e1.symm)
  unfold setJ
  rw [World.cell?_setCell_other (h := hne _), World.cell?_setCell_other (h := hne _), World.cell?_setCell_other (h := hne _), World.cell?_setCell_other (h := hne _), World.cell?_setCell_other (h := hne _), World.cell?_setCell_other (h := hne _)]
theorem setJ_at {W : World} {b : Nat} {y x : Jn} (h : JnAt W b x) : JnAt (setJ W b y) b y := by
  obtain ⟨h0, h1, h2, h3, h4, h5⟩ := h
  unfold setJ
  refine ⟨?_, ?_, ?_, ?_, ?_, ?_⟩ <;> simp [cellSetSame, World.cell?_setCell_other, *]
theorem setJ_far {W : World} {b b' : Nat} {y x : Jn} (h : JnAt W b' x) (hne : b' ≠ b) : JnAt (setJ W b y) b' x := h.same fun o => setJ_cell hne
theorem setJ_below {B b : Nat} {w W : World} {y : Jn} (h : Below B w W) (hb : B ≤ b) : Below B w (setJ W b y) := by
  unfold setJ
  exact ((((((h.setCell (p := ⟨b, 0, none⟩) hb _).setCell (p := ⟨b, 1, none⟩) hb _).setCell (p := ⟨b, 2, none⟩) hb _).setCell (p := ⟨b, 3, none⟩) hb _).setCell (p := ⟨b, 4, none⟩) hb _).setCell (p := ⟨b, 5, none⟩) hb _)
def JnF (w : World) (b : Nat) (m : Jn) : Prop := JnAt w b m ∧ FreeB w b
theorem JnF.alloc {w : World} {b : Nat} {m : Jn} (h : JnF w b m) (o : Obj) : JnF (w.alloc o) b m := ⟨h.1.alloc o, h.2.alloc h.1.lt o⟩
theorem JnF.drew {w : World} {b : Nat} {m : Jn} (h : JnF w b m) : JnF w.drew b m := h
theorem JnF.drewN {w : World} {b : Nat} {m : Jn} (h : JnF w b m) (n : Nat) : JnF (w.drewN n) b m := h
theorem JnF.below {w w' : World} {b B : Nat} {m : Jn} (h : JnF w b m) (hb : Below B w w') (hlt : b < B) : JnF w' b m := ⟨h.1.below hb hlt, h.2.below hb hlt⟩
theorem JnF.new (w : World) (m : Jn) (t : TypeId) : JnF (w.alloc (.cells #[.int .i64 m.x.re, .int .i64 m.x.im, .int .i64 m.x.den, .int .i64 m.y.re, .int .i64 m.y.im, .int .i64 m.y.den] t)) w.heap.size m := ⟨JnAt.new w m t, FreeB.new w _ _⟩
theorem sfibRun_m (A : Option Addr) (len cap : Nat) (xs : List Sec) (v M : Jn) (fl : Bool) (w : World) (h : Secs A len cap xs w) (e : jnb (fibRunI xs v) = .tuple #[jnv M, .bool fl]) :
    Calls Tryd.prog 23 #[.slice A len cap, jnv v] w fun e w' => e = .returned (.tuple #[jnv M, .bool fl]) ∧ Below w.heap.size w w' := by rw [← e]; exact sfibRun_any A len cap xs v w h
theorem fibRun_m (A : Option Addr) (len cap : Nat) (xs : List Sec) (v M : Jn) (fl : Bool) (w : World) (h : Secs A len cap xs w) (hO : GO w) (hZ : GZ w) (hT : GT w) (hS : GS w) (e : jnb (fibRunI xs v) = .tuple #[jnv M, .bool fl]) :
    Calls Tryd.prog 22 #[.slice A len cap, jnv v] w fun e w' => e = .returned (.tuple #[jnv M, .bool fl]) ∧ Below w.heap.size w w' := by rw [← e]; exact fibRun_any A len cap xs v w h hO hZ hT hS
end Go.Proofs.YtiagnnmnaakmoaaDoor
