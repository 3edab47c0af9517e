/-
  A fraction is put behind a list of the call's own.
-/
import Derived.Test.YtkdggljioekkhaaGreatDoorLg
namespace Go.Proofs.YtkdggljioekkhaaGreatDoor
set_option linter.unusedSimpArgs false
set_option linter.unusedVariables false
open Go.RowKit
/-- A new list without elements. -/
theorem OwF.made (w : World) (base : Nat) (hb : base ≤ w.heap.size) : OwF base (.slice (some ⟨w.heap.size, 0, none⟩) 0 0) [] (w.alloc (.cells #[] 26)) :=
  World.ownsRow_made (size := 3) w #[] 0 hb (by unfold maxLen; omega) rfl
/-- One section is put behind a list of the call's own. -/
theorem append_fr {ops : Array Oper} {rest : List Oper} {o : Oper} {a : Act} {Q : Exit → Act → World → Prop} (hgd : o.guard = none) (s x : Operand)
    (ho : o.op = .call { callee := .builtin .append, args := #[s, x], argTypes := #[47, 47] }) (base : Nat) (v : Value) (ys : List Fr) (W : World) (hs : a.eval s = v) (hO : OwF base v ys W) (z : Fr)
    (hx : a.eval x = .slice (some ⟨W.heap.size, 0, none⟩) 1 1) (hlen : ys.length < 4000000) (hb : base ≤ W.heap.size)
    (h : ∀ v' w', OwF base v' (ys ++ [z]) w' → W.grownBy w' v.ownBlock → wpList Tryz.prog ops Q rest (a.put o.dst v') w') :
    wpList Tryz.prog ops Q (o :: rest) a (W.alloc (.cells #[.int .i64 z.re, .int .i64 z.im, .int .i64 z.den] 26)) := by
  obtain ⟨i0, hi, hz0, hz1, hz2⟩ := info_parts infoFr
  refine wpList_append_own _ hgd s x 47 ho base 26 i0 (.agg #[.int .i64 0, .int .i64 0, .int .i64 0]) 3 24 Tryz.underlying47 hi hz0 hz1 hz2 rfl (by decide) v ys.length (rowF ys) hs (hO.alloc _) ⟨W.heap.size, 0, none⟩ 1 1 (fracL z) hx rfl ?_ ?_ (by unfold maxLen; omega) (by omega) (by simp; omega) ?_
  · intro j u hj
    rw [add_noneF]
    match j, hj with
    | 0, hj => simp [fracL] at hj; subst hj; exact World.cell?_alloc_at _ _ _ _ rfl
    | 1, hj => simp [fracL] at hj; subst hj; exact World.cell?_alloc_at _ _ _ _ rfl
    | 2, hj => simp [fracL] at hj; subst hj; exact World.cell?_alloc_at _ _ _ _ rfl
    | n + 3, hj => simp [fracL] at hj
  · intro u hu
    simp only [fracL, List.mem_cons, List.not_mem_nil, or_false] at hu
    rcases hu with rfl | rfl | rfl <;> rfl
  · intro v' w' hown hgr _
    refine h v' w' ?_ (grownBy_transF (World.grownBy_alloc _ _ _) hgr)
    unfold OwF
    rw [rowF_append, rowF_one, List.length_append]
    exact hown
/-- What the call made but for its own list stays as it was below. -/
theorem below_ownF {base : Nat} {v : Value} {ys : List Fr} {w0 W w' : World} (hB : Below w0.heap.size w0 W) (hO : OwF base v ys W) (hb : w0.heap.size ≤ base) (hg : W.grownBy w' v.ownBlock) : Below w0.heap.size w0 w' :=
  hB.grown hg hB.size (fun k hk => Nat.le_trans hb (hO.lt k hk).1)
end Go.Proofs.YtkdggljioekkhaaGreatDoor
