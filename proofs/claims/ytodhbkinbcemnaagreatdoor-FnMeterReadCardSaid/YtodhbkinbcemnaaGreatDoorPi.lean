/-
  Texts of this claim, joined: Rw; Rx. Nothing is claimed here; the other texts of this claim use it.
-/
import Derived.Test.YtodhbkinbcemnaaGreatDoorPa
import Derived.Deep.RegionHeld3
namespace Go.Proofs.YtodhbkinbcemnaaGreatDoor
set_option linter.unusedSimpArgs false
set_option linter.unusedVariables false
section
open Go.RowKit
/-- The regions of a function's code, by their numbers. -/
def codeRegions : Code → List (Nat × Array Oper)
  | .region id ops _ => [(id, ops)]
  | .seq a b => codeRegions a ++ codeRegions b
  | .cond _ a b => codeRegions a ++ codeRegions b
  | .block _ c => codeRegions c
  | .loop c => codeRegions c
  | .scope c => codeRegions c
  | _ => []
def regionAt (f : Func) (k : Nat) : Array Oper := ((((f.body.map codeRegions).getD []).find? (fun q => q.1 == k)).map (·.2)).getD #[]
def isSel : Op → Bool
  | .select _ _ => true
  | _ => false
def isCall : Op → Bool
  | .call _ => true
  | _ => false
def isStore : Op → Bool
  | .store _ _ _ => true
  | _ => false
def isAlloc : Op → Bool
  | .alloc _ => true
  | _ => false
def inChain (o : Op) : Bool := isCall o || isStore o
/-- How many operations of the chain stand ahead of a place. -/
def callsTo : List Oper → Nat → Nat
  | _, 0 => 0
  | [], _ + 1 => 0
  | o :: l, i + 1 => (if inChain o.op then 1 else 0) + callsTo l i
/-- The place of a new variable's making, by its slot. -/
def ixOf (als : List (Nat × Nat)) (t : Nat) : Option Nat := als.lookup t
def evV (V : Nat → Value) : Operand → Value
  | .tmp t => V t
  | .const v => v
  | .global g => .pointer (some ⟨g, 0, none⟩)
  | .func f => .func (.func f) #[] #[]
/-- The slots, with the new variables' addresses. -/
def vm (als : List (Nat × Nat)) (V : Nat → Value) (m : Nat → Option Nat) (t : Nat) : Value := match ixOf als t with
  | some _ => .pointer (some ⟨(m t).getD 0, 0, none⟩)
  | none => V t
def hasEdge (o : Oper) (j : Nat) : Bool := o.after.any fun e => Region.binds .any e && e.on == j
/-- An operand is none of the region, or its operation is waited for. -/
def waits (L : List Oper) (base : Nat) (rd : List Nat) (als : List (Nat × Nat)) (o : Oper) : Operand → Bool
  | .tmp t => match ixOf als t with
    | some j => isStore o.op && (hasEdge o j && match L[j]? with
      | some o' => isAlloc o'.op && o'.dst == some t
      | none => false)
    | none => (decide (t < base) && rd.contains t) || (decide (base ≤ t) && hasEdge o (t - base) && match L[t - base]? with
      | some o' => !isStore o'.op && !isAlloc o'.op
      | none => false)
  | _ => true
/-- What is checked of one operation. -/
def opOk (L : List Oper) (base : Nat) (rd : List Nat) (als : List (Nat × Nat)) (prev : Option Nat) (i : Nat) (o : Oper) : Bool :=
  o.guard.isNone && !isSel o.op && (o.after.all fun e => !Region.binds .any e || decide (e.on < i)) && o.op.operands.all (waits L base rd als o) &&
  (if isAlloc o.op then (match o.dst with
    | some t => ixOf als t == some i && decide (t < base)
    | none => false)
   else if isStore o.op then o.dst == none else o.dst == some (base + i)) &&
  (!inChain o.op || match prev with
    | none => true
    | some j => hasEdge o j)
def opsOk (L : List Oper) (base : Nat) (rd : List Nat) (als : List (Nat × Nat)) : Option Nat → Nat → List Oper → Bool
  | _, _, [] => true
  | prev, i, o :: l => opOk L base rd als prev i o && opsOk L base rd als (if inChain o.op then some i else prev) (i + 1) l
/-- How many of the chain may be done while operation i has not come up: up to the first of the chain that waits for it. -/
def kb (L : List Oper) (i : Nat) : Nat := match (List.range L.length).find? (fun c => match L[c]? with
    | some o => inChain o.op && hasEdge o i
    | none => false) with
  | some c => callsTo L c
  | none => L.length
section
variable (als : List (Nat × Nat)) (V : Nat → Value) (L : List Oper) (J : (Nat → Option Nat) → Nat → World → Prop)
/-- What is asked of one operation, out of the table. -/
def Ob (P : Program) (i base k : Nat) (o : Oper) : Prop :=
  if isCall o.op then ∃ f args, (∀ w, (execOp (evV V) o).run P w = .ok (.enter f args) w) ∧ ∀ m w, J m k w → Calls P f args w fun e w' => e = .returned (V (base + i)) ∧ J m (k + 1) w'
  else if isStore o.op then ∀ m w, J m k w → (∀ t, .tmp t ∈ o.op.operands → (ixOf als t).isSome = true → (m t).isSome = true) → ∃ w', (execOp (evV (vm als V m)) o).run P w = .ok .skip w' ∧ J m (k + 1) w'
  else if isAlloc o.op then ∀ m k w t, o.dst = some t → m t = none → J m k w → ∃ b w', (execOp (evV V) o).run P w = .ok (.value (.pointer (some ⟨b, 0, none⟩))) w' ∧ J (fun t' => if t' = t then some b else m t') k w'
  else ∀ m k w, k ≤ kb L i → J m k w → (execOp (evV V) o).run P w = .ok (.value (V (base + i))) w
def Obs (P : Program) (base : Nat) : Nat → Nat → List Oper → Prop
  | _, _, [] => True
  | i, k, o :: l => Ob als V L J P i base k o ∧ Obs P base (i + 1) (if inChain o.op then k + 1 else k) l
end
theorem opsOk_at {L : List Oper} {base : Nat} {rd : List Nat} {als : List (Nat × Nat)} : ∀ (l : List Oper) (prev : Option Nat) (i : Nat), opsOk L base rd als prev i l = true → ∀ (j : Nat) (o : Oper), l[j]? = some o →
    ∃ pv, opOk L base rd als pv (i + j) o = true ∧ (pv = none → prev = none ∧ callsTo l j = 0) ∧ (∀ q, pv = some q → (prev = some q ∧ callsTo l j = 0) ∨ (i ≤ q ∧ q < i + j ∧ (l[q - i]?.map (fun o => inChain o.op)) = some true ∧ callsTo l (q - i) + 1 = callsTo l j))
  | [], _, _, _, j, o, h => by simp at h
  | x :: l, prev, i, hk, 0, o, h => by
    simp at h; subst h
    simp only [opsOk, Bool.and_eq_true] at hk
    exact ⟨prev, hk.1, fun e => ⟨e, rfl⟩, fun q e => .inl ⟨e, rfl⟩⟩
  | x :: l, prev, i, hk, j + 1, o, h => by
    simp only [opsOk, Bool.and_eq_true] at hk
    obtain ⟨pv, h1, h2, h3⟩ := opsOk_at l _ _ hk.2 j o (by simpa using h)
    refine ⟨pv, by rwa [show i + (j + 1) = i + 1 + j by omega], fun e => ?_, fun q e => ?_⟩
    · obtain ⟨g1, g2⟩ := h2 e
      cases hx : inChain x.op
      · rw [hx] at g1
        exact ⟨by simpa using g1, by simp [callsTo, hx, g2]⟩
      · rw [hx] at g1; simp at g1
    · rcases h3 q e with ⟨g1, g2⟩ | ⟨g1, g2, g3, g4⟩
      · cases hx : inChain x.op
        · rw [hx] at g1
          exact .inl ⟨by simpa using g1, by simp [callsTo, hx, g2]⟩
        · rw [hx] at g1
          obtain rfl : i = q := by simpa using g1
          exact .inr ⟨Nat.le_refl _, by omega, by simp [hx], by simp [callsTo, hx, g2]⟩
      · refine .inr ⟨by omega, by omega, ?_, ?_⟩
        · rw [show q - i = (q - (i + 1)) + 1 by omega]; simpa using g3
        · rw [show q - i = (q - (i + 1)) + 1 by omega]; simp only [callsTo]; omega
theorem obs_at {P : Program} {als : List (Nat × Nat)} {V : Nat → Value} {L : List Oper} {J : (Nat → Option Nat) → Nat → World → Prop} {base : Nat} : ∀ (l : List Oper) (i k : Nat), Obs als V L J P base i k l → ∀ (j : Nat) (o : Oper), l[j]? = some o → Ob als V L J P (i + j) base (k + callsTo l j) o
  | [], _, _, _, j, o, h => by simp at h
  | x :: l, i, k, hk, 0, o, h => by simp at h; subst h; exact hk.1
  | x :: l, i, k, hk, j + 1, o, h => by
    have := obs_at l _ _ hk.2 j o (by simpa using h)
    rw [show i + (j + 1) = i + 1 + j by omega]
    simp only [callsTo]
    cases hx : inChain x.op
    · rw [hx] at this; simpa using this
    · rw [hx] at this
      simp only [if_true] at this ⊢
      rwa [show k + (1 + callsTo l j) = k + 1 + callsTo l j by omega]
theorem callsTo_lt {l : List Oper} {i j : Nat} {o : Oper} (h : l[i]? = some o) (hc : inChain o.op = true) (hij : i < j) : callsTo l i < callsTo l j := by
  induction l generalizing i j with
  | nil => simp at h
  | cons x l ih =>
    cases j with
    | zero => omega
    | succ j =>
      cases i with
      | zero => simp at h; subst h; simp [callsTo, hc]; omega
      | succ i => simp only [callsTo]; have := ih (by simpa using h) (show i < j by omega); omega
theorem callsTo_succ {l : List Oper} {i : Nat} {o : Oper} (h : l[i]? = some o) (hc : inChain o.op = true) : callsTo l (i + 1) = callsTo l i + 1 := by
  induction l generalizing i with
  | nil => simp at h
  | cons x l ih =>
    cases i with
    | zero => simp at h; subst h; simp [callsTo, hc]
    | succ i =>
      have := ih (by simpa using h)
      simp only [callsTo] at this ⊢
      omega
theorem callsTo_same {l : List Oper} {i : Nat} {o : Oper} (h : l[i]? = some o) (hc : inChain o.op = false) : callsTo l (i + 1) = callsTo l i := by
  induction l generalizing i with
  | nil => simp at h
  | cons x l ih =>
    cases i with
    | zero => simp at h; subst h; simp [callsTo, hc]
    | succ i =>
      have := ih (by simpa using h)
      simp only [callsTo] at this ⊢
      omega
theorem callsTo_le (l : List Oper) : ∀ i, callsTo l i ≤ i := by
  induction l with
  | nil => intro i; cases i <;> simp [callsTo]
  | cons x l ih =>
    intro i
    cases i with
    | zero => simp [callsTo]
    | succ i => simp only [callsTo]; have := ih i; split <;> omega
theorem mem_readyR {md : Region.Mode} {ops : Array Oper} {listed : Array Bool} {i : Nat} (h : i ∈ Region.ready md ops listed) :
    listed.getD i true = false ∧ ∃ o, ops[i]? = some o ∧ ∀ e ∈ o.after, Region.binds md e = true → listed.getD e.on false = true := mem_ready.1 h
theorem getD_setR (l : Array Bool) (i j : Nat) (d : Bool) : (l.setIfInBounds i true).getD j d = if i = j ∧ i < l.size then true else l.getD j d := by
  simp only [Array.getD_eq_getD_getElem?, Array.getElem?_setIfInBounds]
  by_cases h : i = j
  · subst h
    by_cases h2 : i < l.size
    · simp [h2]
    · simp [h2, Array.getElem?_eq_none (Nat.le_of_not_lt h2)]
  · simp [h]
theorem eval_putR (a : Act) (d t : Nat) (v : Value) (hd : d < a.tmps.size) : (a.put (some d) v).eval (.tmp t) = if d = t then v else a.eval (.tmp t) := by
  simp only [Act.eval, Act.put, Array.getD_eq_getD_getElem?, Array.getElem?_setIfInBounds]
  by_cases h : d = t
  · subst h; simp [hd]
  · simp [h]
theorem size_putR (a : Act) (d : Option Nat) (v : Value) : (a.put d v).tmps.size = a.tmps.size := by
  cases d <;> simp [Act.put]
theorem count_set : ∀ (l : List Bool) (i : Nat), l[i]? = some false → (l.set i true).count false + 1 = l.count false
  | [], i, h => by simp at h
  | b :: l, 0, h => by simp at h; subst h; simp
  | b :: l, i + 1, h => by
    have := count_set l i (by simpa using h)
    rw [List.set_cons_succ, List.count_cons, List.count_cons]
    omega
/-- What holds between the operations of a region: k of the chain are done; m: the new variables' blocks, so far as they are made. -/
structure Sim (a0 : Act) (rd : List Nat) (als : List (Nat × Nat)) (V : Nat → Value) (J : (Nat → Option Nat) → Nat → World → Prop) (L : List Oper) (base : Nat) (k : Nat) (m : Nat → Option Nat) (listed : Array Bool) (a : Act) (w : World) : Prop where
  size : listed.size = L.length
  slots : base + L.length ≤ a.tmps.size
  keep : a.defers = a0.defers ∧ a.tmps.size = a0.tmps.size ∧ ∀ t, (base + L.length ≤ t ∨ (t < base ∧ ixOf als t = none) ∨ (base ≤ t ∧ (L[t - base]?.map fun o => isStore o.op || isAlloc o.op) = some true)) → a.eval (.tmp t) = a0.eval (.tmp t)
  call : ∀ j o, L[j]? = some o → inChain o.op = true → (listed.getD j true = true ↔ callsTo L j < k)
  low : ∀ t, t < base → ixOf als t = none → rd.contains t = true → a.eval (.tmp t) = V t
  up : ∀ j o, L[j]? = some o → isStore o.op = false → isAlloc o.op = false → listed.getD j true = true → a.eval (.tmp (base + j)) = V (base + j)
  made : ∀ j o t, L[j]? = some o → isAlloc o.op = true → o.dst = some t → listed.getD j true = (m t).isSome
  al : ∀ t b, (ixOf als t).isSome = true → m t = some b → a.eval (.tmp t) = .pointer (some ⟨b, 0, none⟩)
  dep : ∀ j o, L[j]? = some o → listed.getD j true = true → ∀ e, e < L.length → hasEdge o e = true → listed.getD e true = true
  inv : J m k w
/-- The end: all are done. -/
def Ends (a0 : Act) (rd : List Nat) (als : List (Nat × Nat)) (V : Nat → Value) (J : (Nat → Option Nat) → Nat → World → Prop) (L : List Oper) (base : Nat) (Q : Exit → Act → World → Prop) : Prop :=
  ∀ (m : Nat → Option Nat) (a : Act) (w : World), J m (callsTo L L.length) w → (∀ (j : Nat) (o : Oper) (t : Nat), L[j]? = some o → isAlloc o.op = true → o.dst = some t → (m t).isSome = true) → base + L.length ≤ a.tmps.size → (a.defers = a0.defers ∧ a.tmps.size = a0.tmps.size ∧ ∀ t, (base + L.length ≤ t ∨ (t < base ∧ ixOf als t = none) ∨ (base ≤ t ∧ (L[t - base]?.map fun o => isStore o.op || isAlloc o.op) = some true)) → a.eval (.tmp t) = a0.eval (.tmp t)) →
    (∀ t, t < base → ixOf als t = none → rd.contains t = true → a.eval (.tmp t) = V t) → (∀ (j : Nat) (o : Oper), L[j]? = some o → isStore o.op = false → isAlloc o.op = false → a.eval (.tmp (base + j)) = V (base + j)) →
    (∀ (t b : Nat), (ixOf als t).isSome = true → m t = some b → a.eval (.tmp t) = .pointer (some ⟨b, 0, none⟩)) → Q .normal a w
def alsOk (L : List Oper) (als : List (Nat × Nat)) : Bool := als.all fun q => match L[q.2]? with
  | some o => isAlloc o.op && o.dst == some q.1
  | none => false
theorem made_of {L : List Oper} {als : List (Nat × Nat)} {m : Nat → Option Nat} (h : alsOk L als = true) (hm : ∀ (j : Nat) (o : Oper) (t : Nat), L[j]? = some o → isAlloc o.op = true → o.dst = some t → (m t).isSome = true) : ∀ q ∈ als, ∃ b, m q.1 = some b := fun q hq => by
  have h1 := List.all_eq_true.1 h q hq
  cases ho : L[q.2]? with
  | none => rw [ho] at h1; cases h1
  | some o =>
    rw [ho] at h1
    simp only [Bool.and_eq_true, beq_iff_eq] at h1
    exact Option.isSome_iff_exists.1 (hm _ o q.1 ho h1.1 h1.2)
section
variable {a0 : Act} {P : Program} {rd : List Nat} {als : List (Nat × Nat)} {V : Nat → Value} {J : (Nat → Option Nat) → Nat → World → Prop} {Q : Exit → Act → World → Prop} {ops : Array Oper} {base : Nat} {L : List Oper}
theorem wpOp_plain {i : Nat} {o : Oper} {a : Act} {w : World} {K : Act → World → Prop} (ho : ops[i]? = some o) (hg : o.guard = none) (h : o.upon P a K Q ((execOp a.eval o).run P w)) : wpOp P ops Q i K a w := by
  unfold wpOp
  rw [ho]
  have : Region.wanted o (yielded ops a.tmps) = true := by unfold Region.wanted; rw [hg]
  simp only [this, if_true]
  exact .inl h
theorem Sim.ends {k : Nat} {m : Nat → Option Nat} {listed : Array Bool} {a : Act} {w : World} (h : Sim a0 rd als V J L base k m listed a w) (hall : ∀ i, i < L.length → listed.getD i true = true) (hk : k ≤ callsTo L L.length) (he : Ends a0 rd als V J L base Q) : Q .normal a w := by
  have hkT : k = callsTo L L.length := by
    have hc : ∀ j, j ≤ L.length → callsTo L j ≤ k := by
      intro j
      induction j with
      | zero => intro _; simp [callsTo]
      | succ j ihj =>
        intro hj
        have h4 := ihj (by omega)
        have hLj : L[j]? = some (L[j]'(by omega)) := List.getElem?_eq_getElem (by omega)
        cases hcj : inChain (L[j]'(by omega)).op
        · have : callsTo L (j + 1) = callsTo L j := callsTo_same hLj hcj
          omega
        · have h5 := (h.call j _ hLj hcj).1 (hall j (by omega))
          have : callsTo L (j + 1) = callsTo L j + 1 := callsTo_succ hLj hcj
          omega
    have := hc _ (Nat.le_refl _)
    omega
  subst hkT
  refine he m a w h.inv (fun j o t hj hA hd => ?_) h.slots h.keep h.low (fun j o hj h1 h2 => h.up j o hj h1 h2 (hall j (List.getElem?_eq_some_iff.1 hj).1)) h.al
  rw [← h.made j o t hj hA hd]
  exact hall j (List.getElem?_eq_some_iff.1 hj).1
theorem sim_any (hops : ops.toList = L) (hix : ∀ t, (ixOf als t).isSome = true → t < base) (hok : opsOk L base rd als none 0 L = true) (hOb : Obs als V L J P base 0 0 L) (he : Ends a0 rd als V J L base Q) :
    ∀ (fuel : Nat) (k : Nat) (m : Nat → Option Nat) (listed : Array Bool) (a : Act) (w : World), Sim a0 rd als V J L base k m listed a w → k ≤ callsTo L L.length → listed.toList.count false ≤ fuel → wpAny P .any ops Q fuel listed a w := by
  have hsz : ops.size = L.length := by rw [← Array.length_toList, hops]
  have hat : ∀ i, ops[i]? = L[i]? := fun i => by rw [← Array.getElem?_toList, hops]
  -- what has not come up: the least of it may
  have prog : ∀ listed : Array Bool, listed.size = L.length → Region.ready .any ops listed = [] → ∀ i, i < L.length → listed.getD i true = true := by
    intro listed hz hr i
    have gd : ∀ i, i < L.length → listed.getD i true = listed.getD i false := fun i hi => by
      rw [Array.getD_eq_getD_getElem?, Array.getD_eq_getD_getElem?, Array.getElem?_eq_getElem (by omega)]; rfl
    induction i using Nat.strongRecOn with
    | _ i ihi =>
      intro hin
      cases hu : listed.getD i true
      · exfalso
        have hmem : i ∈ Region.ready .any ops listed := by
          have ho : L[i]? = some (L[i]'hin) := List.getElem?_eq_getElem hin
          obtain ⟨pv, g, -⟩ := opsOk_at L none 0 hok i _ ho
          simp only [opOk, Bool.and_eq_true, Nat.zero_add] at g
          have g3 := Array.all_eq_true_iff_forall_mem.1 g.1.1.1.2
          refine mem_ready.2 ⟨hu, L[i]'hin, (hat i).trans ho, fun e he' hb => ?_⟩
          have := g3 e he'
          rw [hb] at this
          simp only [Bool.not_true, Bool.false_or, decide_eq_true_eq] at this
          rw [← gd _ (by omega)]
          exact ihi _ this (by omega)
        rw [hr] at hmem
        cases hmem
      · rfl
  intro fuel
  induction fuel with
  | zero =>
    intro k m listed a w hs hk hf
    have hz := hs.size
    have hall : ∀ i, i < L.length → listed.getD i true = true := fun i hi => by
      cases hu : listed.getD i true
      · exfalso
        have h3 : listed.toList[i]? = some false := by
          rw [Array.getElem?_toList]
          rw [Array.getD_eq_getD_getElem?] at hu
          rw [Array.getElem?_eq_getElem (by omega)] at hu ⊢
          simpa using hu
        have := List.count_pos_iff.2 (List.mem_of_getElem? h3)
        omega
      · rfl
    refine ⟨?_, hs.ends hall hk he⟩
    rw [List.eq_nil_iff_forall_not_mem]
    intro i hi
    obtain ⟨h1, o, h2, -⟩ := mem_readyR hi
    rw [hall i (by rw [hat] at h2; exact (List.getElem?_eq_some_iff.1 h2).1)] at h1
    cases h1
  | succ fuel ih =>
    intro k m listed a w hs hk hf
    have hz := hs.size
    have hsl := hs.slots
    have gd : ∀ i, i < L.length → listed.getD i true = listed.getD i false := fun i hi => by
      rw [Array.getD_eq_getD_getElem?, Array.getD_eq_getD_getElem?, Array.getElem?_eq_getElem (by omega)]; rfl
    have cnt : ∀ i, i < L.length → listed.getD i true = false → (listed.setIfInBounds i true).toList.count false ≤ fuel := fun i hi hu => by
      have h3 : listed.toList[i]? = some false := by
        rw [Array.getElem?_toList]
        rw [Array.getD_eq_getD_getElem?] at hu
        rw [Array.getElem?_eq_getElem (by omega)] at hu ⊢
        simpa using hu
      have := count_set _ i h3
      rw [Array.toList_setIfInBounds]
      omega
    refine ⟨fun hr => hs.ends (prog listed hz hr) hk he, fun i hi => ?_⟩
    obtain ⟨hun, o, ho, haf⟩ := mem_readyR hi
    have hoL : L[i]? = some o := by rw [← hat]; exact ho
    have hin : i < L.length := (List.getElem?_eq_some_iff.1 hoL).1
    have haf' : ∀ j, j < L.length → hasEdge o j = true → listed.getD j true = true := fun j hj h => by
      unfold hasEdge at h
      rw [Array.any_eq_true'] at h
      obtain ⟨e, he, h2⟩ := h
      simp only [Bool.and_eq_true, beq_iff_eq] at h2
      rw [gd _ hj, ← h2.2]
      exact haf e he h2.1
    have hlt : ∀ j, hasEdge o j = true → j < i := fun j h => by
      obtain ⟨pv, g, -⟩ := opsOk_at L none 0 hok i o hoL
      simp only [opOk, Bool.and_eq_true, Nat.zero_add] at g
      have g3 := Array.all_eq_true_iff_forall_mem.1 g.1.1.1.2
      unfold hasEdge at h
      rw [Array.any_eq_true'] at h
      obtain ⟨e, he, h2⟩ := h
      simp only [Bool.and_eq_true, beq_iff_eq] at h2
      have := g3 e he
      rw [h2.1] at this
      simp only [Bool.not_true, Bool.false_or, decide_eq_true_eq] at this
      omega
    obtain ⟨pv, g, g2, g3⟩ := opsOk_at L none 0 hok i o hoL
    simp only [opOk, Bool.and_eq_true, Nat.zero_add] at g
    obtain ⟨⟨⟨⟨⟨hg, hsel⟩, -⟩, hrd⟩, hdst⟩, hch⟩ := g
    have hg' : o.guard = none := by simpa using hg
    have hev : execOp a.eval o = execOp (evV (vm als V m)) o ∧ (∀ t, .tmp t ∈ o.op.operands → (ixOf als t).isSome = true → (m t).isSome = true) ∧ (isStore o.op = false → execOp a.eval o = execOp (evV V) o) := by
      have hx : ∀ x ∈ o.op.operands, a.eval x = evV (vm als V m) x ∧ (∀ t, x = .tmp t → (ixOf als t).isSome = true → (m t).isSome = true) ∧ (isStore o.op = false → a.eval x = evV V x) := by
        intro x hx
        have h1 := Array.all_eq_true_iff_forall_mem.1 hrd x hx
        cases x with
        | tmp t =>
          have hix : ∀ h : ixOf als t = none, a.eval (.tmp t) = V t := by
            intro h0
            simp only [waits, h0, Bool.or_eq_true, decide_eq_true_eq, Bool.and_eq_true] at h1
            rcases Nat.lt_or_ge t base with hb | hb
            · rcases h1 with h2 | ⟨⟨h2, -⟩, -⟩
              · exact hs.low t hb h0 h2.2
              · exact absurd hb (Nat.not_lt.2 h2)
            · rcases h1 with h2 | ⟨⟨-, h2⟩, h3⟩
              · exact absurd h2.1 (Nat.not_lt.2 hb)
              · cases hq : L[t - base]? with
                | none => rw [hq] at h3; cases h3
                | some o' =>
                  rw [hq] at h3
                  simp only [Bool.and_eq_true, Bool.not_eq_true'] at h3
                  have hq2 := (List.getElem?_eq_some_iff.1 hq).1
                  have := hs.up _ o' hq h3.1 h3.2 (haf' _ hq2 h2)
                  have e : base + (t - base) = t := Nat.add_sub_cancel' hb
                  rw [e] at this
                  exact this
          cases hi : ixOf als t with
          | none =>
            refine ⟨?_, fun t' e h => ?_, fun _ => hix hi⟩
            · rw [hix hi]; simp only [evV, vm, hi]
            · cases e; rw [hi] at h; cases h
          | some j =>
            simp only [waits, hi, Bool.and_eq_true] at h1
            obtain ⟨h2, h3, h4⟩ := h1
            -- the variable's making has come up
            have hj := hlt j h3
            have hjL : L[j]? = some (L[j]'(by omega)) := List.getElem?_eq_getElem (by omega)
            have hl := haf' j (by omega) h3
            have hm : (m t).isSome = true := by
              rw [hjL] at h4
              simp only [Bool.and_eq_true, beq_iff_eq] at h4
              rw [← hs.made j _ t hjL h4.1 h4.2]; exact hl
            refine ⟨?_, fun t' e h => by cases e; exact hm, fun h => by rw [h] at h2; cases h2⟩
            obtain ⟨b, hb⟩ := Option.isSome_iff_exists.1 hm
            rw [hs.al t b (by rw [hi]; rfl) hb]
            simp only [evV, vm, hi, hb, Option.getD_some]
        | const v => exact ⟨rfl, (fun t e => nomatch e), fun _ => rfl⟩
        | global v => exact ⟨rfl, (fun t e => nomatch e), fun _ => rfl⟩
        | func v => exact ⟨rfl, (fun t e => nomatch e), fun _ => rfl⟩
      have hns : ∀ cs b, o.op ≠ .select cs b := fun cs b e => by rw [e] at hsel; cases hsel
      exact ⟨execOp_congr o hns fun x h => (hx x h).1, fun t ht => (hx _ ht).2.1 t rfl, fun h => execOp_congr o hns fun x h' => (hx x h').2.2 h⟩
    have hob := obs_at L 0 0 hOb i o hoL
    simp only [Nat.zero_add] at hob
    refine wpOp_plain ho hg' ?_
    have nth : ∀ j o', L[j]? = some o' → i ≠ j → (listed.setIfInBounds i true).getD j true = listed.getD j true := fun j o' _ hne => by rw [getD_setR, if_neg (fun h => hne h.1)]
    have self : (listed.setIfInBounds i true).getD i true = true := by rw [getD_setR, if_pos ⟨rfl, by omega⟩]
    have hdep : ∀ j o', L[j]? = some o' → (listed.setIfInBounds i true).getD j true = true → ∀ e, e < L.length → hasEdge o' e = true → (listed.setIfInBounds i true).getD e true = true := by
      intro j o' hj hl e he hh
      have up : listed.getD e true = true → (listed.setIfInBounds i true).getD e true = true := fun h => by
        rw [getD_setR]; split
        · rfl
        · exact h
      by_cases e2 : i = j
      · subst e2
        rw [hoL] at hj; obtain rfl := Option.some.inj hj
        exact up (haf' e he hh)
      · rw [nth j o' hj e2] at hl
        exact up (hs.dep j o' hj hl e he hh)
    have hkb : k ≤ kb L i := by
      unfold kb
      cases hf2 : (List.range L.length).find? (fun c => match L[c]? with
        | some o => inChain o.op && hasEdge o i
        | none => false) with
      | none =>
        have : callsTo L L.length ≤ L.length := callsTo_le L _
        simp only; omega
      | some c =>
        have h1 := List.find?_some hf2
        have h2 := List.mem_range.1 (List.mem_of_find?_eq_some hf2)
        have hc : L[c]? = some (L[c]'h2) := List.getElem?_eq_getElem h2
        rw [hc] at h1
        simp only [Bool.and_eq_true] at h1
        simp only
        rcases Nat.lt_or_ge (callsTo L c) k with h3 | h3
        · exfalso
          have h4 := (hs.call c _ hc h1.1).2 h3
          have h5 := hs.dep c _ hc h4 i hin h1.2
          rw [hun] at h5; cases h5
        · exact h3
    cases hA : isAlloc o.op
    · -- no new variable
      rw [hA] at hdst
      simp only [Bool.false_eq_true, if_false] at hdst
      have hmade : ∀ j o' t, L[j]? = some o' → isAlloc o'.op = true → o'.dst = some t → (listed.setIfInBounds i true).getD j true = (m t).isSome := fun j o' t hj h1 h2 => by
        rw [nth j o' hj (fun e => by subst e; rw [hoL] at hj; obtain rfl := Option.some.inj hj; rw [hA] at h1; cases h1)]
        exact hs.made j o' t hj h1 h2
      -- the number of the chain
      have hkk : inChain o.op = true → callsTo L i = k := fun hc => by
        rw [hc] at hch
        have hge : ¬ callsTo L i < k := fun h => by rw [(hs.call i o hoL hc).2 h] at hun; cases hun
        have hle : callsTo L i ≤ k := by
          cases pv with
          | none => have := (g2 rfl).2; omega
          | some q =>
            rcases g3 q rfl with ⟨-, g4⟩ | ⟨-, g5, g6, g7⟩
            · omega
            · simp only [Nat.sub_zero] at g6 g7
              simp only [Bool.not_true, Bool.false_or] at hch
              have h2 := haf' q (by omega) hch
              cases hq : L[q]? with
              | none => rw [hq] at g6; simp at g6
              | some oq =>
                rw [hq] at g6
                have := (hs.call q oq hq (by simpa using g6)).1 h2
                omega
        omega
      have hcall1 : inChain o.op = true → ∀ j o', L[j]? = some o' → inChain o'.op = true → ((listed.setIfInBounds i true).getD j true = true ↔ callsTo L j < k + 1) := fun hc j o' hj hcj => by
        have hk' := hkk hc
        by_cases e : i = j
        · subst e
          rw [self]
          exact ⟨fun _ => by omega, fun _ => rfl⟩
        · rw [nth j o' hj e, hs.call j o' hj hcj]
          constructor
          · intro h; omega
          · intro h
            rcases Nat.lt_or_ge i j with h2 | h2
            · have := callsTo_lt hoL hc h2; omega
            · have := callsTo_lt hj hcj (show j < i by omega); omega
      have hkT : inChain o.op = true → k + 1 ≤ callsTo L L.length := fun hc => by
        have := callsTo_lt hoL hc hin
        have := hkk hc
        omega
      -- a value is laid into the operation's own slot
      have hval : ∀ (k' : Nat) (w' : World), o.dst = some (base + i) → isStore o.op = false → J m k' w' → k' ≤ callsTo L L.length →
          (∀ j o', L[j]? = some o' → inChain o'.op = true → ((listed.setIfInBounds i true).getD j true = true ↔ callsTo L j < k')) → wpAny P .any ops Q fuel (listed.setIfInBounds i true) (a.put o.dst (V (base + i))) w' := by
        intro k' w' hd hst hJ hk' hc'
        rw [hd]
        refine ih k' m _ _ _ ⟨by rw [Array.size_setIfInBounds]; exact hz, by rw [size_putR]; exact hsl, ⟨hs.keep.1, by rw [size_putR]; exact hs.keep.2.1, fun t ht => by rw [eval_putR _ _ _ _ (by omega), if_neg (fun e => by rcases ht with h4 | h4 | h4 <;> first | omega | (subst e; rw [Nat.add_sub_cancel_left, hoL] at h4; simp [hst, hA] at h4))]; exact hs.keep.2.2 t ht⟩, hc', fun t ht hne hrd => ?_, fun j o' hj h1 h2 hl => ?_, hmade, fun t b ht hb => ?_, hdep, hJ⟩ hk' (cnt i hin hun)
        · rw [eval_putR _ _ _ _ (by omega), if_neg (by omega)]; exact hs.low t ht hne hrd
        · rw [eval_putR _ _ _ _ (by omega)]
          by_cases e : i = j
          · subst e; rw [if_pos rfl]
          · rw [if_neg (by omega)]
            rw [nth j o' hj e] at hl
            exact hs.up j o' hj h1 h2 hl
        · have hlow := hix t ht
          rw [eval_putR _ _ _ _ (by omega), if_neg (by omega)]; exact hs.al t b ht hb
      cases hS : isStore o.op
      · rw [hS] at hdst
        simp only [Bool.false_eq_true, if_false, beq_iff_eq] at hdst
        rw [hev.2.2 hS]
        cases hC : isCall o.op
        · have hnc : inChain o.op = false := by simp [inChain, hC, hS]
          unfold Ob at hob
          rw [hC, hS, hA] at hob
          simp only [Bool.false_eq_true, if_false] at hob
          rw [hob m k w hkb hs.inv]
          exact hval k w hdst hS hs.inv hk fun j o' hj hcj => by
            rw [nth j o' hj (fun e => by subst e; rw [hoL] at hj; obtain rfl := Option.some.inj hj; rw [hnc] at hcj; cases hcj)]
            exact hs.call j o' hj hcj
        · have hic : inChain o.op = true := by simp [inChain, hC]
          unfold Ob at hob
          rw [hC] at hob
          simp only [if_true] at hob
          obtain ⟨f, args, hrun, hcall⟩ := hob
          rw [hrun w, Oper.upon_enter]
          rw [hkk hic] at hcall
          refine (hcall m w hs.inv).mono ?_
          rintro e w' ⟨rfl, hJ⟩
          exact hval (k + 1) w' hdst hS hJ (hkT hic) (hcall1 hic)
      · have hic : inChain o.op = true := by simp [inChain, hS]
        have hC : isCall o.op = false := by
          cases hq : o.op <;> rw [hq] at hS <;> first | rfl | cases hS
        rw [hS] at hdst
        simp only [if_true, beq_iff_eq] at hdst
        unfold Ob at hob
        rw [hC, hS] at hob
        simp only [Bool.false_eq_true, if_false, if_true] at hob
        rw [hkk hic] at hob
        obtain ⟨w', hrun, hJ⟩ := hob m w hs.inv hev.2.1
        rw [hev.1, hrun]
        show wpAny P .any ops Q fuel (listed.setIfInBounds i true) (a.put o.dst undef) w'
        rw [hdst]
        refine ih (k + 1) m _ _ _ ⟨by rw [Array.size_setIfInBounds]; exact hz, hsl, hs.keep, hcall1 hic, hs.low, fun j o' hj h1 h2 hl => ?_, hmade, hs.al, hdep, hJ⟩ (hkT hic) (cnt i hin hun)
        rw [nth j o' hj (fun e => by subst e; rw [hoL] at hj; obtain rfl := Option.some.inj hj; rw [hS] at h1; cases h1)] at hl
        exact hs.up j o' hj h1 h2 hl
    · -- a new variable
      have hS : isStore o.op = false := by cases hq : o.op <;> rw [hq] at hA <;> first | rfl | cases hA
      have hC : isCall o.op = false := by cases hq : o.op <;> rw [hq] at hA <;> first | rfl | cases hA
      rw [hA] at hdst
      simp only [if_true] at hdst
      unfold Ob at hob
      rw [hC, hS, hA] at hob
      simp only [Bool.false_eq_true, if_false, if_true] at hob
      cases hd : o.dst with
      | none => rw [hd] at hdst; cases hdst
      | some t =>
        rw [hd] at hdst
        simp only [Bool.and_eq_true, beq_iff_eq, decide_eq_true_eq] at hdst
        obtain ⟨hit, htb0⟩ := hdst
        have htb : @LT.lt Nat _ t base := htb0
        have hm : m t = none := by
          have := hs.made i o t hoL hA hd
          rw [hun] at this
          cases hmt : m t with
          | none => rfl
          | some b => rw [hmt] at this; cases this
        obtain ⟨b, w', hrun, hJ⟩ := hob m k w t hd hm hs.inv
        rw [hev.2.2 hS, hrun]
        show wpAny P .any ops Q fuel (listed.setIfInBounds i true) (a.put o.dst (.pointer (some ⟨b, 0, none⟩))) w'
        rw [hd]
        have htn : @LT.lt Nat _ t a.tmps.size := Nat.lt_of_lt_of_le htb (Nat.le_trans (Nat.le_add_right _ _) hsl)
        refine ih k _ _ _ _ ⟨by rw [Array.size_setIfInBounds]; exact hz, by rw [size_putR]; exact hsl, ⟨hs.keep.1, by rw [size_putR]; exact hs.keep.2.1, fun t' ht' => by rw [eval_putR _ _ _ _ htn, if_neg (fun e => by have h3 : @LT.lt Nat _ t' base := e ▸ htb; rcases ht' with h4 | h4 | h4 <;> first | omega | (rw [← e, hit] at h4; cases h4.2))]; exact hs.keep.2.2 t' ht'⟩, fun j o' hj hcj => ?_, fun t' ht' hne hrd => ?_, fun j o' hj h1 h2 hl => ?_, fun j o' t' hj h1 h2 => ?_, fun t' b' ht' hb' => ?_, hdep, hJ⟩ hk (cnt i hin hun)
        · rw [nth j o' hj (fun e => by subst e; rw [hoL] at hj; obtain rfl := Option.some.inj hj; simp [inChain, hC, hS] at hcj)]
          exact hs.call j o' hj hcj
        · rw [eval_putR _ _ _ _ htn, if_neg (fun e => by subst e; rw [hit] at hne; cases hne)]; exact hs.low t' ht' hne hrd
        · rw [eval_putR _ _ _ _ htn, if_neg (fun e => by have h3 : @LT.lt Nat _ (base + j) base := e ▸ htb; omega)]
          rw [nth j o' hj (fun e => by subst e; rw [hoL] at hj; obtain rfl := Option.some.inj hj; rw [hA] at h2; cases h2)] at hl
          exact hs.up j o' hj h1 h2 hl
        · by_cases e : i = j
          · subst e
            rw [hoL] at hj; obtain rfl := Option.some.inj hj
            rw [hd] at h2; obtain rfl := Option.some.inj h2
            rw [self, if_pos rfl]; rfl
          · rw [nth j o' hj e, hs.made j o' t' hj h1 h2]
            have hne : t' ≠ t := fun e2 => by
              subst e2
              obtain ⟨pv', g', -⟩ := opsOk_at L none 0 hok j o' hj
              simp only [opOk, Bool.and_eq_true, Nat.zero_add] at g'
              have := g'.1.2
              rw [h1, h2] at this
              simp only [if_true, Bool.and_eq_true, beq_iff_eq] at this
              rw [hit] at this
              exact e (Option.some.inj this.1)
            rw [if_neg hne]
        · rw [eval_putR _ _ _ _ htn]
          by_cases e : t' = t
          · subst e
            rw [if_pos rfl] at hb' ⊢
            obtain rfl := Option.some.inj hb'
            rfl
          · rw [if_neg e] at hb'
            rw [if_neg (fun e2 => e e2.symm)]
            exact hs.al t' b' ht' hb'
theorem region_sim {id : Nat} {a : Act} {w : World} (hm : P.follows .mixedOrders = true) (hops : ops.toList = L) (hix : ∀ t, (ixOf als t).isSome = true → t < base) (hok : opsOk L base rd als none 0 L = true) (hOb : Obs als V L J P base 0 0 L)
    (he : Ends a rd als V J L base Q) (hsl : base + L.length ≤ a.tmps.size) (hlow : ∀ t ∈ rd, a.eval (.tmp t) = V t) (hJ : J (fun _ => none) 0 w.drew) : (Code.region id ops true).wp P Q a w := by
  have hsz : ops.size = L.length := by rw [← Array.length_toList, hops]
  have hg : ∀ (i : Nat) (d : Bool), i < L.length → (Array.replicate L.length false).getD i d = false := fun i d hi => by
    rw [Array.getD_eq_getD_getElem?, Array.getElem?_replicate, if_pos hi]; rfl
  refine wp_region_any hm ?_
  rw [hsz]
  refine sim_any hops hix hok hOb he L.length 0 (fun _ => none) _ _ _ ⟨by simp, hsl, ⟨rfl, rfl, fun _ _ => rfl⟩, fun j o hj _ => ?_, (fun t _ _ hr => hlow t (by simpa using hr)), fun j o hj _ _ h => ?_, fun j o t hj _ _ => ?_, (fun t b _ h => nomatch h), fun j o hj h => ?_, hJ⟩ (Nat.zero_le _) ?_
  · have := (List.getElem?_eq_some_iff.1 hj).1
    rw [hg _ _ this]; simp
  · have := (List.getElem?_eq_some_iff.1 hj).1
    rw [hg _ _ this] at h; cases h
  · have := (List.getElem?_eq_some_iff.1 hj).1
    rw [hg _ _ this]; rfl
  · have := (List.getElem?_eq_some_iff.1 hj).1
    rw [hg _ _ this] at h; cases h
  · refine Nat.le_trans (List.count_le_length) ?_
    simp
end
end
section
open Go.RowKit
theorem run_callFunc_go {P : Program} {f : FuncId} {fn : Func} (hf : P.funcs[f]? = some fn) (hn : (fn.name == "runtime.NumGoroutine") = false) (hb : fn.body.isNone = false) (args : Array Value) (w : World) : (callFunc f args).run P w = .ok (.enter f args) w := by
  have hn' : ¬ fn.name = "runtime.NumGoroutine" := by simpa using hn
  have hb' : ¬ fn.body = none := by intro e; rw [e] at hb; cases hb
  simp [callFunc, hf, hn', hb']
section
variable {P : Program} {als : List (Nat × Nat)} {V : Nat → Value} {L : List Oper} {J : (Nat → Option Nat) → Nat → World → Prop} {base i k : Nat} {l l' : List Oper} {o : Oper}
theorem obs_run (hl : l = o :: l') (h1 : isCall o.op = false) (h2 : isStore o.op = false) (h3 : isAlloc o.op = false) (h : ∀ m k w, k ≤ kb L i → J m k w → (execOp (evV V) o).run P w = .ok (.value (V (base + i))) w) (hr : Obs als V L J P base (i + 1) k l') : Obs als V L J P base i k l := by
  subst hl
  refine ⟨?_, by simpa [inChain, h1, h2] using hr⟩
  unfold Ob
  rw [h1, h2, h3]
  simpa using h
theorem obs_load {ty : TypeId} {s : Nat} {x y : Value} (hl : l = o :: l') (ho : o.op = .load ty (.tmp s)) (hs : V s = x) (hd : V (base + i) = y) (h : ∀ m k w, J m k w → (Instr.loadAt ty x).run P w = .ok y w) (hr : Obs als V L J P base (i + 1) k l') : Obs als V L J P base i k l := by
  refine obs_run hl (by rw [ho]; rfl) (by rw [ho]; rfl) (by rw [ho]; rfl) (fun m k w _ hJ => ?_) hr
  rw [hd]
  simp only [execOp, ho, evV, hs, Sem.run_bind, h m k w hJ, Result.andThen_ok, Sem.run_pure]
theorem obs_loadK {ty : TypeId} {s c : Nat} {x y : Value} (hl : l = o :: l') (ho : o.op = .load ty (.tmp s)) (hs : V s = x) (hd : V (base + i) = y) (hc : kb L i = c) (h : ∀ m k w, k ≤ c → J m k w → (Instr.loadAt ty x).run P w = .ok y w) (hr : Obs als V L J P base (i + 1) k l') : Obs als V L J P base i k l := by
  refine obs_run hl (by rw [ho]; rfl) (by rw [ho]; rfl) (by rw [ho]; rfl) (fun m k w hk hJ => ?_) hr
  rw [hd]
  simp only [execOp, ho, evV, hs, Sem.run_bind, h m k w (hc ▸ hk) hJ, Result.andThen_ok, Sem.run_pure]
theorem obs_bin {op : BinOp} {ty ty' : TypeId} {a b : Operand} {x y z : Value} (hl : l = o :: l') (ho : o.op = .binOp op ty a b ty') (hx : evV V a = x) (hy : evV V b = y) (hd : V (base + i) = z) (h : ∀ w, (eqGuard op ty a b x y).run P w = .ok () w ∧ (binOp op ty x y).run P w = .ok z w) (hr : Obs als V L J P base (i + 1) k l') : Obs als V L J P base i k l := by
  refine obs_run hl (by rw [ho]; rfl) (by rw [ho]; rfl) (by rw [ho]; rfl) (fun m k w _ hJ => ?_) hr
  rw [hd]
  simp only [execOp, ho, hx, hy, Sem.run_bind, (h w).1, (h w).2, Result.andThen_ok, Sem.run_pure]
theorem obs_indexT {ty : TypeId} {s t : Nat} {x c y : Value} (hl : l = o :: l') (ho : o.op = .indexAddr ty (.tmp s) (.tmp t)) (hs : V s = x) (ht : V t = c) (hd : V (base + i) = y) (h : ∀ w, (Instr.indexAt ty x c).run P w = .ok y w) (hr : Obs als V L J P base (i + 1) k l') : Obs als V L J P base i k l := by
  refine obs_run hl (by rw [ho]; rfl) (by rw [ho]; rfl) (by rw [ho]; rfl) (fun m k w _ hJ => ?_) hr
  rw [hd]
  simp only [execOp, ho, evV, hs, ht, Sem.run_bind, h w, Result.andThen_ok, Sem.run_pure]
theorem obs_storeF {ty : TypeId} {t s : Nat} {x y : Value} (hl : l = o :: l') (ho : o.op = .store ty (.tmp t) (.tmp s)) (ht : ixOf als t = none) (hs : ixOf als s = none) (hx : V t = x) (hv : V s = y)
    (h : ∀ m w, J m k w → ∃ w', (Instr.storeAt ty x y).run P w = .ok () w' ∧ J m (k + 1) w') (hr : Obs als V L J P base (i + 1) (k + 1) l') : Obs als V L J P base i k l := by
  subst hl
  have h1 : isCall o.op = false := by rw [ho]; rfl
  have h2 : isStore o.op = true := by rw [ho]; rfl
  refine ⟨?_, by simpa [inChain, h2] using hr⟩
  unfold Ob
  rw [h1, h2]
  simp only [Bool.false_eq_true, if_false, if_true]
  intro m w hJ hm
  obtain ⟨w', hr', hJ'⟩ := h m w hJ
  refine ⟨w', ?_, hJ'⟩
  have e1 : vm als V m t = x := by unfold vm; rw [ht]; exact hx
  have e2 : vm als V m s = y := by unfold vm; rw [hs]; exact hv
  simp only [execOp, ho, evV, e1, e2, Sem.run_bind, hr', Result.andThen_ok, Sem.run_pure]
theorem obs_move {s : Nat} {x : Value} (hl : l = o :: l') (ho : o.op = .move (.tmp s)) (hs : V s = x) (hd : V (base + i) = x) (hr : Obs als V L J P base (i + 1) k l') : Obs als V L J P base i k l := by
  refine obs_run hl (by rw [ho]; rfl) (by rw [ho]; rfl) (by rw [ho]; rfl) (fun m k w _ hJ => ?_) hr
  rw [hd]
  simp only [execOp, ho, evV, hs, Sem.run_pure]
theorem obs_field {ty : TypeId} {s f : Nat} {x y : Value} (hl : l = o :: l') (ho : o.op = .fieldAddr ty (.tmp s) f) (hs : V s = x) (hd : V (base + i) = y) (h : ∀ w, (Instr.fieldAt ty x f).run P w = .ok y w) (hr : Obs als V L J P base (i + 1) k l') : Obs als V L J P base i k l := by
  refine obs_run hl (by rw [ho]; rfl) (by rw [ho]; rfl) (by rw [ho]; rfl) (fun m k w _ hJ => ?_) hr
  rw [hd]
  simp only [execOp, ho, evV, hs, Sem.run_bind, h w, Result.andThen_ok, Sem.run_pure]
theorem obs_index {ty : TypeId} {s : Nat} {c x y : Value} (hl : l = o :: l') (ho : o.op = .indexAddr ty (.tmp s) (.const c)) (hs : V s = x) (hd : V (base + i) = y) (h : ∀ w, (Instr.indexAt ty x c).run P w = .ok y w) (hr : Obs als V L J P base (i + 1) k l') : Obs als V L J P base i k l := by
  refine obs_run hl (by rw [ho]; rfl) (by rw [ho]; rfl) (by rw [ho]; rfl) (fun m k w _ hJ => ?_) hr
  rw [hd]
  simp only [execOp, ho, evV, hs, Sem.run_bind, h w, Result.andThen_ok, Sem.run_pure]
theorem obs_build {ty : TypeId} {ps : Array (Nat × Operand)} {vs : List (Nat × Value)} {y : Value} (hl : l = o :: l') (ho : o.op = .build ty ps) (hs : (ps.toList.map fun q => (q.1, evV V q.2)) = vs) (hd : V (base + i) = y) (h : ∀ w, (Instr.build ty vs.toArray).run P w = .ok y w) (hr : Obs als V L J P base (i + 1) k l') : Obs als V L J P base i k l := by
  refine obs_run hl (by rw [ho]; rfl) (by rw [ho]; rfl) (by rw [ho]; rfl) (fun m k w _ hJ => ?_) hr
  rw [hd]
  have e : (ps.map fun q => (q.1, evV V q.2)) = vs.toArray := by rw [← hs, ← List.map_toArray]
  simp only [execOp, ho, e, Sem.run_bind, h w, Result.andThen_ok, Sem.run_pure]
theorem obs_call {f : FuncId} {fn : Func} {xs : Array Operand} {ats : Array TypeId} {vs : List Value} {y : Value} (hl : l = o :: l') (ho : o.op = .call { callee := .value (.func f), args := xs, argTypes := ats })
    (hf : P.funcs[f]? = some fn) (hn : (fn.name == "runtime.NumGoroutine") = false) (hb : fn.body.isNone = false) (hv : xs.toList.map (evV V) = vs) (hd : V (base + i) = y)
    (h : ∀ m w, J m k w → Calls P f vs.toArray w fun e w' => e = .returned y ∧ J m (k + 1) w') (hr : Obs als V L J P base (i + 1) (k + 1) l') : Obs als V L J P base i k l := by
  subst hl
  have h1 : isCall o.op = true := by rw [ho]; rfl
  refine ⟨?_, by simpa [inChain, h1] using hr⟩
  unfold Ob
  rw [h1, if_pos rfl, hd]
  refine ⟨f, vs.toArray, fun w => ?_, h⟩
  have e : xs.map (evV V) = vs.toArray := by rw [← hv, ← List.map_toArray]
  simp only [execOp, ho, resolve, evV, Deferred.ofValue, invoke, e, Sem.run_bind, Sem.run_pure, Result.andThen_ok]
  rw [show #[] ++ vs.toArray ++ #[] = vs.toArray by simp]
  exact run_callFunc_go hf hn hb _ w
theorem obs_callC {f : FuncId} {fn : Func} {s : Nat} {cap : List Value} {xs : Array Operand} {ats : Array TypeId} {vs : List Value} {y : Value} (hl : l = o :: l') (ho : o.op = .call { callee := .value (.tmp s), args := xs, argTypes := ats }) (hs : V s = .func (.func f) #[] cap.toArray)
    (hf : P.funcs[f]? = some fn) (hn : (fn.name == "runtime.NumGoroutine") = false) (hb : fn.body.isNone = false) (hv : xs.toList.map (evV V) ++ cap = vs) (hd : V (base + i) = y)
    (h : ∀ m w, J m k w → Calls P f vs.toArray w fun e w' => e = .returned y ∧ J m (k + 1) w') (hr : Obs als V L J P base (i + 1) (k + 1) l') : Obs als V L J P base i k l := by
  subst hl
  have h1 : isCall o.op = true := by rw [ho]; rfl
  refine ⟨?_, by simpa [inChain, h1] using hr⟩
  unfold Ob
  rw [h1, if_pos rfl, hd]
  refine ⟨f, vs.toArray, fun w => ?_, h⟩
  have e : xs.map (evV V) ++ cap.toArray = vs.toArray := by rw [← hv]; simp [← List.map_toArray]
  simp only [execOp, ho, resolve, evV, hs, Deferred.ofValue, invoke, Sem.run_bind, Sem.run_pure, Result.andThen_ok]
  rw [show #[] ++ xs.map (evV V) ++ cap.toArray = vs.toArray by rw [← e]; simp]
  exact run_callFunc_go hf hn hb _ w
theorem obs_store {ty : TypeId} {t s j : Nat} {y : Value} (hl : l = o :: l') (ho : o.op = .store ty (.tmp t) (.tmp s)) (ht : ixOf als t = some j) (hs : ixOf als s = none) (hv : V s = y)
    (h : ∀ m w b, J m k w → m t = some b → ∃ w', (Instr.storeAt ty (.pointer (some ⟨b, 0, none⟩)) y).run P w = .ok () w' ∧ J m (k + 1) w') (hr : Obs als V L J P base (i + 1) (k + 1) l') : Obs als V L J P base i k l := by
  subst hl
  have h1 : isCall o.op = false := by rw [ho]; rfl
  have h2 : isStore o.op = true := by rw [ho]; rfl
  refine ⟨?_, by simpa [inChain, h2] using hr⟩
  unfold Ob
  rw [h1, h2]
  simp only [Bool.false_eq_true, if_false, if_true]
  intro m w hJ hm
  have hmt := hm t (by rw [ho]; simp [Op.operands]) (by rw [ht]; rfl)
  obtain ⟨b, hb⟩ := Option.isSome_iff_exists.1 hmt
  obtain ⟨w', hr', hJ'⟩ := h m w b hJ hb
  refine ⟨w', ?_, hJ'⟩
  have e1 : vm als V m t = .pointer (some ⟨b, 0, none⟩) := by unfold vm; rw [ht]; simp only [hb, Option.getD_some]
  have e2 : vm als V m s = y := by unfold vm; rw [hs]; exact hv
  simp only [execOp, ho, evV, e1, e2, Sem.run_bind, hr', Result.andThen_ok, Sem.run_pure]
theorem obs_alloc {ty : TypeId} {t : Nat} (hl : l = o :: l') (ho : o.op = .alloc ty) (hd : o.dst = some t)
    (h : ∀ m k w, J m k w → m t = none → ∃ b w', (Instr.alloc ty true (.tuple #[])).run P w = .ok (.pointer (some ⟨b, 0, none⟩)) w' ∧ J (fun t' => if t' = t then some b else m t') k w') (hr : Obs als V L J P base (i + 1) k l') : Obs als V L J P base i k l := by
  subst hl
  have h1 : isCall o.op = false := by rw [ho]; rfl
  have h2 : isStore o.op = false := by rw [ho]; rfl
  have h3 : isAlloc o.op = true := by rw [ho]; rfl
  refine ⟨?_, by simpa [inChain, h1, h2] using hr⟩
  unfold Ob
  rw [h1, h2, h3]
  simp only [Bool.false_eq_true, if_false, if_true]
  intro m k w t' ht' hm hJ
  rw [hd] at ht'
  obtain rfl := Option.some.inj ht'
  obtain ⟨b, w', hr', hJ'⟩ := h m k w hJ hm
  refine ⟨b, w', ?_, hJ'⟩
  simp only [execOp, ho, Sem.run_bind, hr', Result.andThen_ok, Sem.run_pure]
theorem obs_nil (hl : l = []) : Obs als V L J P base i k l := by subst hl; trivial
end
/-- An element of a list of values. -/
def nth : List Value → Nat → Value
  | [], _ => undef
  | x :: _, 0 => x
  | _ :: l, n + 1 => nth l n
end
end Go.Proofs.YtodhbkinbcemnaaGreatDoor
