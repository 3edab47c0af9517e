/-
  The walks of what turns a fibre round, program and reference.
-/
import Derived.Test.YtiagnnmnaakmoaaDoorFv
namespace Go.Proofs.YtiagnnmnaakmoaaDoor
set_option linter.unusedSimpArgs false
set_option linter.unusedVariables false
open Go.RowKit
/-- A new list without elements. -/
theorem Own.made (w : World) (base : Nat) (hb : base ≤ w.heap.size) : Own base (.slice (some ⟨w.heap.size, 0, none⟩) 0 0) [] (w.alloc (.cells #[] 59)) :=
  World.ownsRow_made (size := 4) w #[] 0 hb (by unfold maxLen; omega) rfl
/-- One section is put behind a list of the call's own. -/
theorem append_sec {ops : Array Oper} {rest : List Oper} {o : Oper} {a : Act} {Q : Exit → Act → World → Prop} (hgd : o.guard = none) (s x : Operand)
    (ho : o.op = .call { callee := .builtin .append, args := #[s, x], argTypes := #[29, 29] }) (base : Nat) (v : Value) (ys : List Sec) (W : World) (hs : a.eval s = v) (hO : Own base v ys W) (z : Sec)
    (hx : a.eval x = .slice (some ⟨W.heap.size, 0, none⟩) 1 1) (hlen : ys.length < 4000000) (hb : base ≤ W.heap.size)
    (h : ∀ v' w', Own base v' (ys ++ [z]) w' → W.grownBy w' v.ownBlock → wpList Tryd.prog ops Q rest (a.put o.dst v') w') :
    wpList Tryd.prog ops Q (o :: rest) a (W.alloc (.cells #[.int .i64 z.p, .int .i64 z.q, .int .i64 z.ph, .int .i64 z.t] 59)) := by
  obtain ⟨i0, hi, hz0, hz1, hz2⟩ := info_parts infoSec
  refine wpList_append_own _ hgd s x 29 ho base 59 i0 (.agg #[.int .i64 0, .int .i64 0, .int .i64 0, .int .i64 0]) 4 32 Tryd.underlying29 hi hz0 hz1 hz2 rfl (by decide) v ys.length (rowL ys) hs (hO.alloc _) ⟨W.heap.size, 0, none⟩ 1 1 (secL z) hx rfl ?_ ?_ (by unfold maxLen; omega) (by omega) (by simp; omega) ?_
  · intro j u hj
    rw [add_none]
    match j, hj with
    | 0, hj => simp [secL] at hj; subst hj; exact World.cell?_alloc_at _ _ _ _ rfl
    | 1, hj => simp [secL] at hj; subst hj; exact World.cell?_alloc_at _ _ _ _ rfl
    | 2, hj => simp [secL] at hj; subst hj; exact World.cell?_alloc_at _ _ _ _ rfl
    | 3, hj => simp [secL] at hj; subst hj; exact World.cell?_alloc_at _ _ _ _ rfl
    | n + 4, hj => simp [secL] at hj
  · intro u hu
    simp only [secL, List.mem_cons, List.not_mem_nil, or_false] at hu
    rcases hu with rfl | rfl | rfl | rfl <;> rfl
  · intro v' w' hown hgr _
    refine h v' w' ?_ (grownBy_trans (World.grownBy_alloc _ _ _) hgr)
    unfold Own
    rw [rowL_append, rowL_one, List.length_append]
    exact hown
theorem fibOk_len {xs : List Sec} (h : fibOk xs = true) : xs.length ≤ 8 := by
  simp only [fibOk, Bool.and_eq_true, decide_eq_true_eq] at h
  exact h.2
theorem fibValid_t (A : Option Addr) (len cap : Nat) (xs : List Sec) (w : World) (h : Secs A len cap xs w) (hf : fibOk xs = true) :
    Calls Tryd.prog 39 #[.slice A len cap] w fun e w' => e = .returned (.bool true) ∧ Below w.heap.size w w' := by rw [← hf]; exact fibValid_any A len cap xs w h
theorem fibValid_f (A : Option Addr) (len cap : Nat) (xs : List Sec) (w : World) (h : Secs A len cap xs w) (hf : fibOk xs = false) :
    Calls Tryd.prog 39 #[.slice A len cap] w fun e w' => e = .returned (.bool false) ∧ Below w.heap.size w w' := by rw [← hf]; exact fibValid_any A len cap xs w h
theorem sfibValid_t (A : Option Addr) (len cap : Nat) (xs : List Sec) (w : World) (h : Secs A len cap xs w) (hf : fibOk xs = true) :
    Calls Tryd.prog 56 #[.slice A len cap] w fun e w' => e = .returned (.bool true) ∧ Below w.heap.size w w' := by rw [← hf]; exact sfibValid_any A len cap xs w h
theorem sfibValid_f (A : Option Addr) (len cap : Nat) (xs : List Sec) (w : World) (h : Secs A len cap xs w) (hf : fibOk xs = false) :
    Calls Tryd.prog 56 #[.slice A len cap] w fun e w' => e = .returned (.bool false) ∧ Below w.heap.size w w' := by rw [← hf]; exact sfibValid_any A len cap xs w h
end Go.Proofs.YtiagnnmnaakmoaaDoor
