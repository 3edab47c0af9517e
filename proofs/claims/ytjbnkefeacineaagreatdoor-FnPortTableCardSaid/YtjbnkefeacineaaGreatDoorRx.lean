/-
  The parts of the law on all orders of a region: one lemma for each kind of operation.
-/
import Derived.Test.YtjbnkefeacineaaGreatDoorRw
namespace Go.Proofs.YtjbnkefeacineaaGreatDoor
set_option linter.unusedSimpArgs false
set_option linter.unusedVariables false
open Go.RowKit
theorem run_callFunc_go {P : Program} {f : FuncId} {fn : Func} (hf : P.funcs[f]? = some fn) (hn : (fn.name == "runtime.NumGoroutine") = false) (hb : fn.body.isNone = false) (args : Array Value) (w : World) : (callFunc f args).run P w = .ok (.enter f args) w := by
  have hn' : ¬ fn.name = "runtime.NumGoroutine" := by simpa using hn
  have hb' : ¬ fn.body = none := by intro e; rw [e] at hb; cases hb
  simp [callFunc, hf, hn', hb']
section
variable {P : Program} {als : List (Nat × Nat)} {V : Nat → Value} {L : List Oper} {J : (Nat → Option Nat) → Nat → World → Prop} {base i k : Nat} {l l' : List Oper} {o : Oper}
theorem obs_run (hl : l = o :: l') (h1 : isCall o.op = false) (h2 : isStore o.op = false) (h3 : isAlloc o.op = false) (h : ∀ m k w, k ≤ kb L i → J m k w → (execOp (evV V) o).run P w = .ok (.value (V (base + i))) w) (hr : Obs als V L J P base (i + 1) k l') : Obs als V L J P base i k l := by
  subst hl
  refine ⟨?_, by simpa [inChain, h1, h2] using hr⟩
  unfold Ob
  rw [h1, h2, h3]
  simpa using h
theorem obs_load {ty : TypeId} {s : Nat} {x y : Value} (hl : l = o :: l') (ho : o.op = .load ty (.tmp s)) (hs : V s = x) (hd : V (base + i) = y) (h : ∀ m k w, J m k w → (Instr.loadAt ty x).run P w = .ok y w) (hr : Obs als V L J P base (i + 1) k l') : Obs als V L J P base i k l := by
  refine obs_run hl (by rw [ho]; rfl) (by rw [ho]; rfl) (by rw [ho]; rfl) (fun m k w _ hJ => ?_) hr
  rw [hd]
  simp only [execOp, ho, evV, hs, Sem.run_bind, h m k w hJ, Result.andThen_ok, Sem.run_pure]
theorem obs_loadK {ty : TypeId} {s c : Nat} {x y : Value} (hl : l = o :: l') (ho : o.op = .load ty (.tmp s)) (hs : V s = x) (hd : V (base + i) = y) (hc : kb L i = c) (h : ∀ m k w, k ≤ c → J m k w → (Instr.loadAt ty x).run P w = .ok y w) (hr : Obs als V L J P base (i + 1) k l') : Obs als V L J P base i k l := by
  refine obs_run hl (by rw [ho]; rfl) (by rw [ho]; rfl) (by rw [ho]; rfl) (fun m k w hk hJ => ?_) hr
  rw [hd]
  simp only [execOp, ho, evV, hs, Sem.run_bind, h m k w (hc ▸ hk) hJ, Result.andThen_ok, Sem.run_pure]
theorem obs_storeF {ty : TypeId} {t s : Nat} {x y : Value} (hl : l = o :: l') (ho : o.op = .store ty (.tmp t) (.tmp s)) (ht : ixOf als t = none) (hs : ixOf als s = none) (hx : V t = x) (hv : V s = y)
    (h : ∀ m w, J m k w → ∃ w', (Instr.storeAt ty x y).run P w = .ok () w' ∧ J m (k + 1) w') (hr : Obs als V L J P base (i + 1) (k + 1) l') : Obs als V L J P base i k l := by
  subst hl
  have h1 : isCall o.op = false := by rw [ho]; rfl
  have h2 : isStore o.op = true := by rw [ho]; rfl
  refine ⟨?_, by simpa [inChain, h2] using hr⟩
  unfold Ob
  rw [h1, h2]
  simp only [Bool.false_eq_true, if_false, if_true]
  intro m w hJ hm
  obtain ⟨w', hr', hJ'⟩ := h m w hJ
  refine ⟨w', ?_, hJ'⟩
  have e1 : vm als V m t = x := by unfold vm; rw [ht]; exact hx
  have e2 : vm als V m s = y := by unfold vm; rw [hs]; exact hv
  simp only [execOp, ho, evV, e1, e2, Sem.run_bind, hr', Result.andThen_ok, Sem.run_pure]
theorem obs_move {s : Nat} {x : Value} (hl : l = o :: l') (ho : o.op = .move (.tmp s)) (hs : V s = x) (hd : V (base + i) = x) (hr : Obs als V L J P base (i + 1) k l') : Obs als V L J P base i k l := by
  refine obs_run hl (by rw [ho]; rfl) (by rw [ho]; rfl) (by rw [ho]; rfl) (fun m k w _ hJ => ?_) hr
  rw [hd]
  simp only [execOp, ho, evV, hs, Sem.run_pure]
theorem obs_field {ty : TypeId} {s f : Nat} {x y : Value} (hl : l = o :: l') (ho : o.op = .fieldAddr ty (.tmp s) f) (hs : V s = x) (hd : V (base + i) = y) (h : ∀ w, (Instr.fieldAt ty x f).run P w = .ok y w) (hr : Obs als V L J P base (i + 1) k l') : Obs als V L J P base i k l := by
  refine obs_run hl (by rw [ho]; rfl) (by rw [ho]; rfl) (by rw [ho]; rfl) (fun m k w _ hJ => ?_) hr
  rw [hd]
  simp only [execOp, ho, evV, hs, Sem.run_bind, h w, Result.andThen_ok, Sem.run_pure]
theorem obs_index {ty : TypeId} {s : Nat} {c x y : Value} (hl : l = o :: l') (ho : o.op = .indexAddr ty (.tmp s) (.const c)) (hs : V s = x) (hd : V (base + i) = y) (h : ∀ w, (Instr.indexAt ty x c).run P w = .ok y w) (hr : Obs als V L J P base (i + 1) k l') : Obs als V L J P base i k l := by
  refine obs_run hl (by rw [ho]; rfl) (by rw [ho]; rfl) (by rw [ho]; rfl) (fun m k w _ hJ => ?_) hr
  rw [hd]
  simp only [execOp, ho, evV, hs, Sem.run_bind, h w, Result.andThen_ok, Sem.run_pure]
theorem obs_call {f : FuncId} {fn : Func} {xs : Array Operand} {ats : Array TypeId} {vs : List Value} {y : Value} (hl : l = o :: l') (ho : o.op = .call { callee := .value (.func f), args := xs, argTypes := ats })
    (hf : P.funcs[f]? = some fn) (hn : (fn.name == "runtime.NumGoroutine") = false) (hb : fn.body.isNone = false) (hv : xs.toList.map (evV V) = vs) (hd : V (base + i) = y)
    (h : ∀ m w, J m k w → Calls P f vs.toArray w fun e w' => e = .returned y ∧ J m (k + 1) w') (hr : Obs als V L J P base (i + 1) (k + 1) l') : Obs als V L J P base i k l := by
  subst hl
  have h1 : isCall o.op = true := by rw [ho]; rfl
  refine ⟨?_, by simpa [inChain, h1] using hr⟩
  unfold Ob
  rw [h1, if_pos rfl, hd]
  refine ⟨f, vs.toArray, fun w => ?_, h⟩
  have e : xs.map (evV V) = vs.toArray := by rw [← hv, ← List.map_toArray]
  simp only [execOp, ho, resolve, evV, Deferred.ofValue, invoke, e, Sem.run_bind, Sem.run_pure, Result.andThen_ok]
  rw [show #[] ++ vs.toArray ++ #[] = vs.toArray by simp]
  exact run_callFunc_go hf hn hb _ w
theorem obs_store {ty : TypeId} {t s j : Nat} {y : Value} (hl : l = o :: l') (ho : o.op = .store ty (.tmp t) (.tmp s)) (ht : ixOf als t = some j) (hs : ixOf als s = none) (hv : V s = y)
    (h : ∀ m w b, J m k w → m t = some b → ∃ w', (Instr.storeAt ty (.pointer (some ⟨b, 0, none⟩)) y).run P w = .ok () w' ∧ J m (k + 1) w') (hr : Obs als V L J P base (i + 1) (k + 1) l') : Obs als V L J P base i k l := by
  subst hl
  have h1 : isCall o.op = false := by rw [ho]; rfl
  have h2 : isStore o.op = true := by rw [ho]; rfl
  refine ⟨?_, by simpa [inChain, h2] using hr⟩
  unfold Ob
  rw [h1, h2]
  simp only [Bool.false_eq_true, if_false, if_true]
  intro m w hJ hm
  have hmt := hm t (by rw [ho]; simp [Op.operands]) (by rw [ht]; rfl)
  obtain ⟨b, hb⟩ := Option.isSome_iff_exists.1 hmt
  obtain ⟨w', hr', hJ'⟩ := h m w b hJ hb
  refine ⟨w', ?_, hJ'⟩
  have e1 : vm als V m t = .pointer (some ⟨b, 0, none⟩) := by unfold vm; rw [ht]; simp only [hb, Option.getD_some]
  have e2 : vm als V m s = y := by unfold vm; rw [hs]; exact hv
  simp only [execOp, ho, evV, e1, e2, Sem.run_bind, hr', Result.andThen_ok, Sem.run_pure]
theorem obs_alloc {ty : TypeId} {t : Nat} (hl : l = o :: l') (ho : o.op = .alloc ty) (hd : o.dst = some t)
    (h : ∀ m k w, J m k w → m t = none → ∃ b w', (Instr.alloc ty true (.tuple #[])).run P w = .ok (.pointer (some ⟨b, 0, none⟩)) w' ∧ J (fun t' => if t' = t then some b else m t') k w') (hr : Obs als V L J P base (i + 1) k l') : Obs als V L J P base i k l := by
  subst hl
  have h1 : isCall o.op = false := by rw [ho]; rfl
  have h2 : isStore o.op = false := by rw [ho]; rfl
  have h3 : isAlloc o.op = true := by rw [ho]; rfl
  refine ⟨?_, by simpa [inChain, h1, h2] using hr⟩
  unfold Ob
  rw [h1, h2, h3]
  simp only [Bool.false_eq_true, if_false, if_true]
  intro m k w t' ht' hm hJ
  rw [hd] at ht'
  obtain rfl := Option.some.inj ht'
  obtain ⟨b, w', hr', hJ'⟩ := h m k w hJ hm
  refine ⟨b, w', ?_, hJ'⟩
  simp only [execOp, ho, Sem.run_bind, hr', Result.andThen_ok, Sem.run_pure]
theorem obs_nil (hl : l = []) : Obs als V L J P base i k l := by subst hl; trivial
end
/-- An element of a list of values. -/
def nth : List Value → Nat → Value
  | [], _ => undef
  | x :: _, 0 => x
  | _ :: l, n + 1 => nth l n
end Go.Proofs.YtjbnkefeacineaaGreatDoor
