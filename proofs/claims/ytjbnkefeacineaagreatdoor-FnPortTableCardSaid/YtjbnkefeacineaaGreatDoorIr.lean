/-
  What a region with a reckoning keeps: the reckoning, the new variables' blocks.
-/
import Derived.Test.YtjbnkefeacineaaGreatDoorRx
import Derived.Test.YtjbnkefeacineaaGreatDoorBo
import Derived.Test.YtjbnkefeacineaaGreatDoorPa
import Derived.Deep.WholeRow
namespace Go.Proofs.YtjbnkefeacineaaGreatDoor
set_option linter.unusedSimpArgs false
set_option linter.unusedVariables false
open Go.RowKit
theorem setRow_far (w : World) (g i : Nat) (cs : Array Value) (h : i ≠ g) : (w.setRow g cs).heap[i]? = w.heap[i]? := by
  simp only [World.setRow, Array.getElem?_modify]
  rw [if_neg (fun e => h e.symm)]
theorem setRow_size (w : World) (g : Nat) (cs : Array Value) : (w.setRow g cs).heap.size = w.heap.size := by simp [World.setRow]
theorem belX_setRow {B bs g : Nat} {a w : World} (h : BelX B bs a w) (hg : B ≤ g) (cs : Array Value) : BelX B bs a (w.setRow g cs) :=
  h.trans ⟨rfl, rfl, rfl, by rw [setRow_size]; exact Nat.le_refl _, fun k hk _ => setRow_far w g k cs (by omega)⟩
/-- A block's cells, and that it may be written. -/
structure RJ (W0 : World) (bs : Nat) (bad : Nat → Bool) (als : List (Nat × Nat)) (st : Nat → Nat) (cz : Array Value) (cv : Nat → Array Value) (ty : TypeId) (m : Nat → Option Nat) (k : Nat) (W : World) : Prop where
  X : BelX W0.heap.size bs W0 W
  s : SumIs W bs (bad k)
  b : ∀ t b, m t = some b → W0.heap.size ≤ b ∧ Blk W b (if st t < k then cv t else cz) ty
  d : ∀ t t' b, m t = some b → m t' = some b → t = t'
  n : ∀ t, m t = none → (ixOf als t).isSome = true → k ≤ st t
  a : ∀ t, (m t).isSome = true → (ixOf als t).isSome = true
section
variable {P : Program} {W0 : World} {bs : Nat} {bad : Nat → Bool} {als : List (Nat × Nat)} {st : Nat → Nat} {cz : Array Value} {cv : Nat → Array Value} {ty : TypeId}
theorem rj_start (h : SumIs W0 bs (bad 0)) : RJ W0 bs bad als st cz cv ty (fun _ => none) 0 W0.drew :=
  ⟨(BelX.refl _ _ _).drew, h.drew, (fun _ _ h => nomatch h), (fun _ _ _ h => nomatch h), fun _ _ _ => Nat.zero_le _, (fun _ h => nomatch h)⟩
theorem rj_call {f : FuncId} (vs : List Value) (y : Value) {nn : Bool} {k : Nat} (hbs : bs < W0.heap.size) (hst : ∀ t, (ixOf als t).isSome = true → st t ≠ k) (hb : bad (k + 1) = (bad k || nn))
    (hC : ∀ w, SumEx w bs → BelX W0.heap.size bs W0 w → Calls P f vs.toArray w fun e w' => e = .returned y ∧ (∀ c, SumIs w bs c → SumIs w' bs (c || nn)) ∧ BelX w.heap.size bs w w') :
    ∀ m w, RJ W0 bs bad als st cz cv ty m k w → Calls P f vs.toArray w fun e w' => e = .returned y ∧ RJ W0 bs bad als st cz cv ty m (k + 1) w' := by
  intro m w h
  refine (hC w (SumEx.of h.s) h.X).mono ?_
  rintro e w' ⟨rfl, hu, hx⟩
  refine ⟨rfl, h.X.step hx h.X.size, ?_, fun t b hm => ?_, h.d, fun t hm ht => ?_, h.a⟩
  · rw [hb]; exact hu _ h.s
  · obtain ⟨h1, h2⟩ := h.b t b hm
    have hne := hst t (h.a t (by rw [hm]; rfl))
    have hlt := (Array.getElem?_eq_some_iff.1 h2).1
    refine ⟨h1, (hx.block b hlt (by omega)).trans ?_⟩
    rw [h2]
    by_cases h3 : st t < k
    · rw [if_pos h3, if_pos (by omega)]
    · rw [if_neg h3, if_neg (by omega)]
  · have := h.n t hm ht
    have := hst t ht
    omega
theorem rj_alloc {t : Nat} (ht : (ixOf als t).isSome = true) (hrun : ∀ w, (Instr.alloc ty true (.tuple #[])).run P w = .ok (.pointer (some ⟨w.heap.size, 0, none⟩)) (w.alloc (.cells cz ty))) :
    ∀ m k w, RJ W0 bs bad als st cz cv ty m k w → m t = none → ∃ b w', (Instr.alloc ty true (.tuple #[])).run P w = .ok (.pointer (some ⟨b, 0, none⟩)) w' ∧ RJ W0 bs bad als st cz cv ty (fun t' => if t' = t then some b else m t') k w' := by
  intro m k w h hm
  have hnew : ∀ t' b, m t' = some b → b < w.heap.size := fun t' b h1 => (Array.getElem?_eq_some_iff.1 (h.b t' b h1).2).1
  refine ⟨_, _, hrun w, h.X.alloc h.X.size _, h.s.alloc _, fun t' b hb => ?_, fun t1 t2 b h1 h2 => ?_, fun t' h1 h2 => ?_, fun t' h1 => ?_⟩
  · by_cases e : t' = t
    · rw [if_pos e] at hb
      obtain rfl := Option.some.inj hb
      have := h.n t hm ht
      rw [e, if_neg (by omega)]
      exact ⟨h.X.size, heap_alloc_last w _⟩
    · rw [if_neg e] at hb
      obtain ⟨g1, g2⟩ := h.b t' b hb
      exact ⟨g1, (Below.heap_alloc w _ b (hnew t' b hb)).trans g2⟩
  · by_cases e1 : t1 = t <;> by_cases e2 : t2 = t
    · rw [e1, e2]
    · rw [if_pos e1] at h1; rw [if_neg e2] at h2
      obtain rfl := Option.some.inj h1
      have := hnew _ _ h2; omega
    · rw [if_neg e1] at h1; rw [if_pos e2] at h2
      obtain rfl := Option.some.inj h2
      have := hnew _ _ h1; omega
    · rw [if_neg e1] at h1; rw [if_neg e2] at h2
      exact h.d t1 t2 b h1 h2
  · by_cases e : t' = t
    · rw [if_pos e] at h1; cases h1
    · rw [if_neg e] at h1; exact h.n t' h1 h2
  · by_cases e : t' = t
    · rw [e]; exact ht
    · rw [if_neg e] at h1; exact h.a t' h1
theorem rj_store {t k : Nat} (hbs : bs < W0.heap.size) (hst : st t = k) (hinj : ∀ t', (ixOf als t').isSome = true → st t' = k → t' = t) (hb : bad (k + 1) = bad k) (hz : cz.size = (cv t).size) (h1 : (cv t).all (·.oneCell') = true) (hi : (P.info? ty).map (·.size) = some (cv t).size) :
    ∀ m w b, RJ W0 bs bad als st cz cv ty m k w → m t = some b → ∃ w', (Instr.storeAt ty (.pointer (some ⟨b, 0, none⟩)) (.agg (cv t))).run P w = .ok () w' ∧ RJ W0 bs bad als st cz cv ty m (k + 1) w' := by
  intro m w b h hm
  obtain ⟨g1, g2⟩ := h.b t b hm
  have h0 : Blk w b cz ty := by rw [if_neg (by omega)] at g2; exact g2
  refine ⟨w.setRow b (cv t), ?_, belX_setRow h.X g1 _, ?_, fun t' b' hb' => ?_, h.d, fun t' h2 h3 => ?_, h.a⟩
  · simp only [Instr.storeAt, Instr.sureAddr, Sem.run_bind, Sem.run_pure, Result.andThen_ok]
    exact run_storeVar_row w b ty ty cz (cv t) h0 hi hz h1
  · rw [hb]; exact (setRow_far w b bs _ (by omega)).trans h.s
  · by_cases e : t' = t
    · subst e
      rw [hm] at hb'; obtain rfl := Option.some.inj hb'
      rw [if_pos (by omega)]
      exact ⟨g1, setRow_heap w b cz (cv t') ty (0, 0) h0⟩
    · obtain ⟨g3, g4⟩ := h.b t' b' hb'
      have hne : b' ≠ b := fun e2 => e (h.d t' t b (e2 ▸ hb') hm)
      have hs' : st t' ≠ k := fun e2 => e (hinj t' (h.a t' (by rw [hb']; rfl)) e2)
      refine ⟨g3, (setRow_far w b b' _ hne).trans ?_⟩
      rw [g4]
      by_cases h5 : st t' < k
      · rw [if_pos h5, if_pos (by omega)]
      · rw [if_neg h5, if_neg (by omega)]
  · have h4 := h.n t' h2 h3
    have : st t' ≠ k := fun e2 => by
      have := hinj t' h3 e2
      rw [this, hm] at h2; cases h2
    omega
end
theorem ix_mem : ∀ (als : List (Nat × Nat)) (t : Nat), (ixOf als t).isSome = true → ∃ q ∈ als, q.1 = t
  | [], t, h => by simp [ixOf] at h
  | (a, b) :: l, t, h => by
    by_cases e : t = a
    · exact ⟨(a, b), by simp, e.symm⟩
    · have : (ixOf l t).isSome = true := by
        unfold ixOf at h ⊢
        rw [List.lookup_cons] at h
        have e2 : (t == a) = false := by simpa using e
        rw [e2] at h
        exact h
      obtain ⟨q, h1, h2⟩ := ix_mem l t this
      exact ⟨q, List.mem_cons_of_mem _ h1, h2⟩
theorem ix_inj {als : List (Nat × Nat)} {st : Nat → Nat} {k t : Nat} (h : (als.all fun q => !(st q.1 == k) || q.1 == t) = true) : ∀ t', (ixOf als t').isSome = true → st t' = k → t' = t := fun t' h1 h2 => by
  obtain ⟨q, hq, rfl⟩ := ix_mem als t' h1
  have := List.all_eq_true.1 h q hq
  simp only [Bool.or_eq_true, Bool.not_eq_true', beq_eq_false_iff_ne, beq_iff_eq] at this
  rcases this with h3 | h3
  · exact absurd h2 h3
  · exact h3
theorem ix_ne {als : List (Nat × Nat)} {st : Nat → Nat} {k : Nat} (h : (als.all fun q => !(st q.1 == k)) = true) : ∀ t', (ixOf als t').isSome = true → st t' ≠ k := fun t' h1 => by
  obtain ⟨q, hq, rfl⟩ := ix_mem als t' h1
  have := List.all_eq_true.1 h q hq
  simpa using this
theorem ix_lt {als : List (Nat × Nat)} {base : Nat} (h : (als.all fun q => decide (q.1 < base)) = true) : ∀ t, (ixOf als t).isSome = true → t < base := fun t h1 => by
  obtain ⟨q, hq, rfl⟩ := ix_mem als t h1
  simpa using List.all_eq_true.1 h q hq
/-- The temporaries, written out. -/
theorem act_ext {a : Act} {n : Nat} {d : List Deferred} (h1 : a.tmps.size = n) (h2 : a.defers = d) : a = { tmps := ((List.range n).map fun t => a.eval (.tmp t)).toArray, defers := d } := by
  obtain ⟨tm, df⟩ := a
  subst h2
  simp only at h1
  congr 1
  apply Array.ext_getElem?
  intro i
  subst h1
  simp only [List.getElem?_toArray, List.getElem?_map, List.getElem?_range']
  by_cases h : i < tm.size
  · rw [List.getElem?_eq_getElem (by simpa using h), List.getElem_range]
    simp [Act.eval, h]
  · rw [List.getElem?_eq_none (by simpa using h)]
    simp [h]
theorem nth_get : ∀ (l : List Value) (t : Nat), nth l t = l.getD t undef
  | [], t => by simp [nth]
  | x :: l, 0 => rfl
  | x :: l, t + 1 => by rw [nth, nth_get l t]; simp
theorem act_ext2 {a : Act} {d : List Deferred} (l : List Value) (h1 : a.tmps.size = l.length) (h2 : a.defers = d) (h : ∀ t, t < l.length → a.eval (.tmp t) = nth l t) : a = { tmps := l.toArray, defers := d } := by
  obtain ⟨tm, df⟩ := a
  subst h2
  simp only at h1
  congr 1
  apply Array.ext_getElem?
  intro i
  by_cases hi : i < l.length
  · have := h i hi
    rw [nth_get] at this
    simp only [Act.eval] at this
    rw [Array.getElem?_eq_getElem (by omega), List.getElem?_toArray, List.getElem?_eq_getElem hi]
    simp only [Array.getD_eq_getD_getElem?, Array.getElem?_eq_getElem (show i < tm.size by omega), List.getD_eq_getElem?_getD, List.getElem?_eq_getElem hi, Option.getD_some] at this
    rw [this]
  · rw [Array.getElem?_eq_none (by omega), List.getElem?_toArray, List.getElem?_eq_none (by omega)]
theorem act_ext3 {a : Act} {d : List Deferred} (n : Nat) (l : List Value) (hn : l.length = n) (h1 : a.tmps.size = n) (h2 : a.defers = d) (h : ∀ t, t < n → a.eval (.tmp t) = nth l t) : a = { tmps := l.toArray, defers := d } :=
  act_ext2 l (by omega) h2 (by rw [hn]; exact h)
end Go.Proofs.YtjbnkefeacineaaGreatDoor
