/-
  Texts of this claim, joined: Lf; La; Lg; Lh; Fg. Nothing is claimed here; the other texts of this claim use it.
-/
import Derived.Test.YtodhbkinbcemnaaGreatDoorPa
import Derived.Deep.Slices
import Derived.OwnWalk
import Derived.Deep.RegionHeld3
import Derived.Test.YtodhbkinbcemnaaGreatDoorRows
namespace Go.Proofs.YtodhbkinbcemnaaGreatDoor
set_option linter.unusedSimpArgs false
set_option linter.unusedVariables false
section
open Go.RowKit
def fracL (s : Fr) : List Value := [.int .i64 s.re, .int .i64 s.im, .int .i64 s.den]
def rowF (xs : List Fr) : List Value := xs.flatMap fracL
theorem rowF_cons (s : Fr) (xs : List Fr) : rowF (s :: xs) = fracL s ++ rowF xs := by simp [rowF]
theorem rowF_append (xs ys : List Fr) : rowF (xs ++ ys) = rowF xs ++ rowF ys := by simp [rowF]
theorem rowF_one (s : Fr) : rowF [s] = fracL s := by simp [rowF]
theorem rowF_length : ∀ xs : List Fr, (rowF xs).length = xs.length * 3
  | [] => rfl
  | s :: xs => by rw [rowF_cons, List.length_append, rowF_length xs, List.length_cons]; simp only [fracL, List.length_cons, List.length_nil]; omega
theorem rowF_take : ∀ (xs : List Fr) (k : Nat), (rowF xs).take (k * 3) = rowF (xs.take k)
  | [], k => by simp [rowF]
  | s :: xs, 0 => by simp [rowF]
  | s :: xs, k + 1 => by
    rw [rowF_cons, List.take_succ_cons, rowF_cons, ← rowF_take xs k, show (k + 1) * 3 = (fracL s).length + k * 3 by simp [fracL]; omega, List.take_length_add_append]
theorem rowF_get : ∀ (xs : List Fr) (i : Nat) (s : Fr), xs[i]? = some s → ∀ j, j < 3 → (rowF xs)[i * 3 + j]? = (fracL s)[j]?
  | [], i, s, h, _, _ => by simp at h
  | x :: xs, 0, s, h, j, hj => by
    simp at h; subst h
    rw [rowF_cons, Nat.zero_mul, Nat.zero_add, List.getElem?_append_left (by simpa [fracL] using hj)]
  | x :: xs, i + 1, s, h, j, hj => by
    rw [rowF_cons, List.getElem?_append_right (by simp [fracL]; omega), show (i + 1) * 3 + j - (fracL x).length = i * 3 + j by simp [fracL]; omega]
    exact rowF_get xs i s (by simpa using h) j hj
theorem rowF_one' (xs : List Fr) : ∀ u ∈ rowF xs, u.oneCell' = true := by
  intro u hu
  simp only [rowF, List.mem_flatMap, fracL, List.mem_cons, List.not_mem_nil, or_false] at hu
  obtain ⟨s, _, rfl | rfl | rfl⟩ := hu <;> rfl

/-- The cells of one section, from a place on. -/
def FAt (w : World) (b o : Nat) (s : Fr) : Prop :=
  w.cell? ⟨b, o, none⟩ = some (.int .i64 s.re) ∧ w.cell? ⟨b, o + 1, none⟩ = some (.int .i64 s.im) ∧ w.cell? ⟨b, o + 2, none⟩ = some (.int .i64 s.den)
theorem FAt.below {w w' : World} {b o B : Nat} {s : Fr} (h : FAt w b o s) (hb : Below B w w') (hlt : b < B) : FAt w' b o s :=
  ⟨(hb.cell hlt).trans h.1, (hb.cell hlt).trans h.2.1, (hb.cell hlt).trans h.2.2⟩

/-- A list of sections that lies in the world, to be read. -/
def Frs (A : Option Addr) (len cap : Nat) (xs : List Fr) (w : World) : Prop := xs.length = len ∧ len ≤ cap ∧ cap ≤ 9223372036854775807 ∧
  (0 < len → ∃ bb off : Nat, A = some ⟨bb, off, none⟩ ∧ bb < w.heap.size ∧ ∀ i s, xs[i]? = some s → FAt w bb (off + i * 3) s)
theorem Frs.below {A : Option Addr} {len cap : Nat} {xs : List Fr} {w w' : World} (h : Frs A len cap xs w) (hb : Below w.heap.size w w') : Frs A len cap xs w' := by
  obtain ⟨h1, h2, h3, h4⟩ := h
  refine ⟨h1, h2, h3, fun h0 => ?_⟩
  obtain ⟨bb, off, e, hbb, hc⟩ := h4 h0
  exact ⟨bb, off, e, Nat.lt_of_lt_of_le hbb hb.size, fun i s hi => (hc i s hi).below hb hbb⟩
theorem Frs.take {A : Option Addr} {len cap : Nat} {xs : List Fr} {w : World} (h : Frs A len cap xs w) (n : Nat) (hn : n ≤ len) : Frs A n cap (xs.take n) w := by
  obtain ⟨h1, h2, h3, h4⟩ := h
  refine ⟨by rw [List.length_take]; omega, by omega, h3, fun h0 => ?_⟩
  obtain ⟨bb, off, e, hbb, hc⟩ := h4 (by omega)
  refine ⟨bb, off, e, hbb, fun i s hi => hc i s ?_⟩
  rw [List.getElem?_take] at hi
  split at hi
  · exact hi
  · cases hi
/-- Element i, to be read in a later world. -/
theorem Frs.at {A : Option Addr} {len cap : Nat} {xs : List Fr} {w : World} (h : Frs A len cap xs w) {w' : World} (hb : Below w.heap.size w w') {k : Nat} (hk : k < len) :
    ∃ (bb off : Nat) (s : Fr), A = some ⟨bb, off, none⟩ ∧ bb < w.heap.size ∧ xs[k]? = some s ∧ FAt w' bb (off + k * 3) s := by
  obtain ⟨h1, h2, h3, h4⟩ := h
  obtain ⟨bb, off, e, hbb, hc⟩ := h4 (by omega)
  have hs : xs[k]? = some (xs[k]'(by omega)) := List.getElem?_eq_getElem (by omega)
  exact ⟨bb, off, _, e, hbb, hs, (hc k _ hs).below hb hbb⟩

/-- A list of sections that the call made: no cell of it is frozen, and it begins at the head of its block. -/
def OwF (base : Nat) (v : Value) (xs : List Fr) (w : World) : Prop := w.ownsRow base 25 3 v xs.length (rowF xs)
theorem OwF.nil (base : Nat) (w : World) : OwF base (.slice none 0 0) [] w := World.ownsRow_nil _ _ _ _
theorem OwF.below {base : Nat} {v : Value} {xs : List Fr} {w w' : World} (h : OwF base v xs w) (hb : Below w.heap.size w w') : OwF base v xs w' := by
  refine ⟨h.1, ?_⟩
  rcases h.2 with hn | ⟨g, cap, cur, rfl, hbg, hg, rest⟩
  · exact .inl hn
  · exact .inr ⟨g, cap, cur, rfl, hbg, (hb.block g (Array.getElem?_eq_some_iff.1 hg).1).trans hg, rest⟩
theorem OwF.grown {base : Nat} {v : Value} {xs : List Fr} {w w' : World} {row : Option Nat} (h : OwF base v xs w) (hg : w.grownBy w' row) (hne : v.ownBlock = none ∨ v.ownBlock ≠ row) : OwF base v xs w' := World.ownsRow.kept h hg hne
theorem OwF.alloc {base : Nat} {v : Value} {xs : List Fr} {w : World} (h : OwF base v xs w) (o : Obj) : OwF base v xs (w.alloc o) := World.ownsRow.alloc h o
theorem OwF.drew {base : Nat} {v : Value} {xs : List Fr} {w : World} (h : OwF base v xs w) : OwF base v xs w.drew := h
theorem OwF.drewN {base : Nat} {v : Value} {xs : List Fr} {w : World} (h : OwF base v xs w) (n : Nat) : OwF base v xs (w.drewN n) := h
theorem OwF.mono {base base' : Nat} {v : Value} {xs : List Fr} {w : World} (h : OwF base v xs w) (hb : base' ≤ base) : OwF base' v xs w := by
  refine ⟨h.1, ?_⟩
  rcases h.2 with hn | ⟨g, cap, cur, rfl, hbg, rest⟩
  · exact .inl hn
  · exact .inr ⟨g, cap, cur, rfl, by omega, rest⟩
theorem add_noneF (g j : Nat) : (⟨g, 0, none⟩ : Addr).add j = ⟨g, j, none⟩ := by unfold Addr.add; split <;> simp_all
/-- What is owned can be read. -/
theorem OwF.frs {base : Nat} {v : Value} {xs : List Fr} {w : World} (h : OwF base v xs w) : ∃ A cap, v = .slice A xs.length cap ∧ Frs A xs.length cap xs w := by
  rcases h.2 with ⟨rfl, h0⟩ | ⟨g, cap, cur, rfl, hbg, hg, hn, hm, hs, ht⟩
  · exact ⟨none, 0, by rw [h0], rfl, by omega, by omega, fun h => by omega⟩
  · have hlt := (Array.getElem?_eq_some_iff.1 hg).1
    have hc := World.ownsRow.cells h (g := g) rfl
    have key : ∀ i s, xs[i]? = some s → ∀ j u, (fracL s)[j]? = some u → w.cell? ⟨g, i * 3 + j, none⟩ = some u := by
      intro i s hi j u hj
      have hj4 : j < 3 := by have := (List.getElem?_eq_some_iff.1 hj).1; simpa [fracL] using this
      have := hc (i * 3 + j) u ((rowF_get xs i s hi j hj4).trans hj)
      rwa [add_noneF] at this
    refine ⟨some ⟨g, 0, none⟩, cap, rfl, rfl, hn, by unfold maxLen at hm; omega, fun _ => ⟨g, 0, rfl, hlt, fun i s hi => ?_⟩⟩
    rw [Nat.zero_add]
    exact ⟨key i s hi 0 _ rfl, key i s hi 1 _ rfl, key i s hi 2 _ rfl⟩
/-- Its own cells may be written. -/
theorem OwF.free {base : Nat} {v : Value} {xs : List Fr} {w : World} (h : OwF base v xs w) (k : Nat) (hk : k < xs.length) : ∃ g cap, v = .slice (some ⟨g, 0, none⟩) xs.length cap ∧ base ≤ g ∧ g < w.heap.size ∧ ∀ j, w.frozen? ⟨g, j, none⟩ = false := by
  rcases h.2 with ⟨rfl, h0⟩ | ⟨g, cap, cur, rfl, hbg, hg, hn, hm, hs, ht⟩
  · omega
  · exact ⟨g, cap, rfl, hbg, (Array.getElem?_eq_some_iff.1 hg).1, fun j => by simp [World.frozen?, hg]⟩
theorem OwF.lt {base : Nat} {v : Value} {xs : List Fr} {w : World} (h : OwF base v xs w) : ∀ k, v.ownBlock = some k → base ≤ k ∧ k < w.heap.size := World.ownsRow.lt h
/-- A shorter cut of it is owned as well. -/
theorem OwF.cut {base g n cap : Nat} {xs : List Fr} {w : World} (h : OwF base (.slice (some ⟨g, 0, none⟩) n cap) xs w) (m : Nat) (hm : m ≤ xs.length) : OwF base (.slice (some ⟨g, 0, none⟩) m cap) (xs.take m) w := by
  rcases h.2 with ⟨h0, _⟩ | ⟨g', cap', cur, h0, hbg, hg, hn, hmx, hs, ht⟩
  · simp at h0
  · simp only [Value.slice.injEq, Option.some.injEq, Addr.mk.injEq, and_true, true_and] at h0
    obtain ⟨rfl, rfl, rfl⟩ := h0
    have hl : (xs.take m).length = m := by rw [List.length_take]; omega
    refine ⟨rowF_length _, .inr ⟨g, cap, cur, by rw [hl], hbg, hg, by rw [hl]; omega, hmx, hs, ?_⟩⟩
    rw [hl, ← rowF_take, ← ht, List.take_take]
    congr 1
    omega
/-- One cell of it is written. -/
theorem ownsRow_setF {base e size n : Nat} {v : Value} {cs : List Value} {w : World} (h : w.ownsRow base e size v n cs) {g : Nat} (hg : v.ownBlock = some g) (i : Nat) (hi : i < cs.length) (u : Value) (hu : u.oneCell' = true) :
    (w.setCell ⟨g, i, none⟩ u).ownsRow base e size v n (cs.set i u) := by
  refine ⟨by rw [List.length_set]; exact h.1, ?_⟩
  rcases h.2 with ⟨rfl, h0⟩ | ⟨g', cap, cur, rfl, hbg, hgg, hn, hm, hs, ht⟩
  · simp [Value.ownBlock] at hg
  · simp [Value.ownBlock] at hg
    subst hg
    refine .inr ⟨g', cap, cur.setIfInBounds i u, rfl, hbg, ?_, hn, hm, by simpa using hs, ?_⟩
    · simp [World.setCell, Array.getElem?_modify, hgg]
    · rw [Array.toList_setIfInBounds, List.take_set, ht]
theorem rowF_put : ∀ (ys : List Fr) (i : Nat) (s : Fr), i < ys.length → (((rowF ys).set (i * 3) (.int .i64 s.re)).set (i * 3 + 1) (.int .i64 s.im)).set (i * 3 + 2) (.int .i64 s.den) = rowF (ys.set i s)
  | [], i, s, h => by simp at h
  | y :: ys, 0, s, _ => by simp [rowF_cons, fracL]
  | y :: ys, i + 1, s, h => by
    rw [List.set_cons_succ, rowF_cons, rowF_cons, ← rowF_put ys i s (by simpa using h), show (i + 1) * 3 = i * 3 + 3 by omega]
    simp only [fracL, List.cons_append, List.nil_append, List.set_cons_succ, show i * 3 + 3 = i * 3 + 1 + 1 + 1 by omega, show i * 3 + 1 + 1 + 1 + 1 = (i * 3 + 1) + 1 + 1 + 1 by omega, show i * 3 + 1 + 1 + 1 + 2 = (i * 3 + 2) + 1 + 1 + 1 by omega]
/-- One section of it is written anew. -/
theorem OwF.put {base : Nat} {v : Value} {ys : List Fr} {w : World} (h : OwF base v ys w) {g : Nat} (hg : v.ownBlock = some g) (i : Nat) (hi : i < ys.length) (s : Fr) :
    OwF base v (ys.set i s) (((w.setCell ⟨g, i * 3, none⟩ (.int .i64 s.re)).setCell ⟨g, i * 3 + 1, none⟩ (.int .i64 s.im)).setCell ⟨g, i * 3 + 2, none⟩ (.int .i64 s.den)) := by
  have hl := rowF_length ys
  have h1 := ownsRow_setF h hg (i * 3) (by omega) (.int .i64 s.re) rfl
  have h2 := ownsRow_setF h1 hg (i * 3 + 1) (by rw [List.length_set]; omega) (.int .i64 s.im) rfl
  have h3 := ownsRow_setF h2 hg (i * 3 + 2) (by rw [List.length_set, List.length_set]; omega) (.int .i64 s.den) rfl
  rw [rowF_put ys i s hi] at h3
  unfold OwF
  rw [List.length_set]
  exact h3
/-- Element i of what is owned: its place, its cells, and that they may be written. -/
theorem OwF.at {base : Nat} {v : Value} {xs : List Fr} {w : World} (h : OwF base v xs w) (k : Nat) (s : Fr) (hs : xs[k]? = some s) :
    ∃ g cap, v = .slice (some ⟨g, 0, none⟩) xs.length cap ∧ base ≤ g ∧ g < w.heap.size ∧ FAt w g (k * 3) s ∧ (w.frozen? ⟨g, k * 3, none⟩ = false ∧ w.frozen? ⟨g, k * 3 + 1, none⟩ = false ∧ w.frozen? ⟨g, k * 3 + 2, none⟩ = false) := by
  have hk := (List.getElem?_eq_some_iff.1 hs).1
  obtain ⟨g, cap, e, hb, hlt, hf⟩ := h.free k hk
  obtain ⟨A, cap', e', hS⟩ := h.frs
  obtain ⟨bb, off, s', eA, hbb, hs', hat⟩ := hS.at (Below.refl _ _) hk
  rw [e] at e'
  simp only [Value.slice.injEq, true_and] at e'
  obtain ⟨e1, e2⟩ := e'
  rw [eA] at e1
  simp only [Option.some.injEq, Addr.mk.injEq, and_true] at e1
  obtain ⟨rfl, rfl⟩ := e1
  obtain rfl : s = s' := by rw [hs] at hs'; exact Option.some.inj hs'
  rw [Nat.zero_add] at hat
  exact ⟨g, cap, e, hb, hlt, hat, hf _, hf _, hf _⟩
theorem OwF.block {base : Nat} {v : Value} {xs : List Fr} {w : World} {g n cap : Nat} (_ : OwF base v xs w) (e : v = .slice (some ⟨g, 0, none⟩) n cap) : v.ownBlock = some g := by rw [e]; rfl

theorem OwF.far {base : Nat} {v : Value} {xs : List Fr} {w : World} (h : OwF base v xs w) {p : Addr} (hp : ∀ k, v.ownBlock = some k → k ≠ p.block) (u : Value) : OwF base v xs (w.setCell p u) := by
  refine ⟨h.1, ?_⟩
  rcases h.2 with hn | ⟨g, cap, cur, rfl, hbg, hg, rest⟩
  · exact .inl hn
  · exact .inr ⟨g, cap, cur, rfl, hbg, (Below.heap_setCell w p u g (hp g rfl)).trans hg, rest⟩
theorem grownBy_transF {a b c : World} {row : Option Nat} (h : a.grownBy b row) (k : b.grownBy c row) : a.grownBy c row :=
  ⟨k.os.trans h.os, k.tape.trans h.tape, k.output.trans h.output, Nat.le_trans h.size k.size, fun i hi hr => (k.block i (Nat.lt_of_lt_of_le hi h.size) hr).trans (h.block i hi hr)⟩
theorem Frs.grown {A : Option Addr} {len cap : Nat} {xs : List Fr} {w w' : World} {row : Option Nat} (h : Frs A len cap xs w) (hg : w.grownBy w' row) (hne : ∀ b o, A = some ⟨b, o, none⟩ → row ≠ some b) : Frs A len cap xs w' := by
  obtain ⟨h1, h2, h3, h4⟩ := h
  refine ⟨h1, h2, h3, fun h0 => ?_⟩
  obtain ⟨bb, off, e, hbb, hc⟩ := h4 h0
  have hk : ∀ p : Addr, p.block = bb → w'.cell? p = w.cell? p := fun p hp => World.cell?_of_block (by rw [hp]; exact hg.block bb hbb (fun e' => hne bb off e e'.symm))
  exact ⟨bb, off, e, Nat.lt_of_lt_of_le hbb hg.size, fun i s hi => ⟨(hk _ rfl).trans (hc i s hi).1, (hk _ rfl).trans (hc i s hi).2.1, (hk _ rfl).trans (hc i s hi).2.2⟩⟩
end
section
open Go.RowKit
end
section
open Go.RowKit
theorem infoFr : (Tryz.prog.info? 25).map (fun i => (i.zero, i.size, i.bytes)) = some (some (.agg #[.int .i64 0, .int .i64 0, .int .i64 0]), 3, 24) := by kernel_rfl
end
section
open Go.RowKit
/-- A new list without elements. -/
theorem OwF.made (w : World) (base : Nat) (hb : base ≤ w.heap.size) : OwF base (.slice (some ⟨w.heap.size, 0, none⟩) 0 0) [] (w.alloc (.cells #[] 25)) :=
  World.ownsRow_made (size := 3) w #[] 0 hb (by unfold maxLen; omega) rfl
/-- One section is put behind a list of the call's own. -/
theorem append_fr {ops : Array Oper} {rest : List Oper} {o : Oper} {a : Act} {Q : Exit → Act → World → Prop} (hgd : o.guard = none) (s x : Operand)
    (ho : o.op = .call { callee := .builtin .append, args := #[s, x], argTypes := #[31, 31] }) (base : Nat) (v : Value) (ys : List Fr) (W : World) (hs : a.eval s = v) (hO : OwF base v ys W) (z : Fr)
    (hx : a.eval x = .slice (some ⟨W.heap.size, 0, none⟩) 1 1) (hlen : ys.length < 4000000) (hb : base ≤ W.heap.size)
    (h : ∀ v' w', OwF base v' (ys ++ [z]) w' → W.grownBy w' v.ownBlock → wpList Tryz.prog ops Q rest (a.put o.dst v') w') :
    wpList Tryz.prog ops Q (o :: rest) a (W.alloc (.cells #[.int .i64 z.re, .int .i64 z.im, .int .i64 z.den] 25)) := by
  obtain ⟨i0, hi, hz0, hz1, hz2⟩ := info_parts infoFr
  refine wpList_append_own _ hgd s x 31 ho base 25 i0 (.agg #[.int .i64 0, .int .i64 0, .int .i64 0]) 3 24 Tryz.underlying31 hi hz0 hz1 hz2 rfl (by decide) v ys.length (rowF ys) hs (hO.alloc _) ⟨W.heap.size, 0, none⟩ 1 1 (fracL z) hx rfl ?_ ?_ (by unfold maxLen; omega) (by omega) (by simp; omega) ?_
  · intro j u hj
    rw [add_noneF]
    match j, hj with
    | 0, hj => simp [fracL] at hj; subst hj; exact World.cell?_alloc_at _ _ _ _ rfl
    | 1, hj => simp [fracL] at hj; subst hj; exact World.cell?_alloc_at _ _ _ _ rfl
    | 2, hj => simp [fracL] at hj; subst hj; exact World.cell?_alloc_at _ _ _ _ rfl
    | n + 3, hj => simp [fracL] at hj
  · intro u hu
    simp only [fracL, List.mem_cons, List.not_mem_nil, or_false] at hu
    rcases hu with rfl | rfl | rfl <;> rfl
  · intro v' w' hown hgr _
    refine h v' w' ?_ (grownBy_transF (World.grownBy_alloc _ _ _) hgr)
    unfold OwF
    rw [rowF_append, rowF_one, List.length_append]
    exact hown
/-- What the call made but for its own list stays as it was below. -/
theorem below_ownF {base : Nat} {v : Value} {ys : List Fr} {w0 W w' : World} (hB : Below w0.heap.size w0 W) (hO : OwF base v ys W) (hb : w0.heap.size ≤ base) (hg : W.grownBy w' v.ownBlock) : Below w0.heap.size w0 w' :=
  hB.grown hg hB.size (fun k hk => Nat.le_trans hb (hO.lt k hk).1)
end
section
open Go.RowKit
theorem frozenNew (w : World) (cs : Array Value) (t : TypeId) (o : Nat) : (w.alloc (.cells cs t)).frozen? ⟨w.heap.size, o, none⟩ = false := by unfold World.frozen?; rw [show (w.alloc (.cells cs t)).heap[w.heap.size]? = some (.cells cs t (0, 0)) from heap_alloc_new w _]; simp
/-- A fraction lies at the head of a block that may be written. -/
structure FrG (w : World) (b : Nat) (m : Fr) : Prop where
  c0 : w.cell? ⟨b, 0, none⟩ = some (.int .i64 m.re)
  c1 : w.cell? ⟨b, 1, none⟩ = some (.int .i64 m.im)
  c2 : w.cell? ⟨b, 2, none⟩ = some (.int .i64 m.den)
  f : ∀ o, w.frozen? ⟨b, o, none⟩ = false
theorem FrG.new (w : World) (m : Fr) (t : TypeId) : FrG (w.alloc (.cells #[.int .i64 m.re, .int .i64 m.im, .int .i64 m.den] t)) w.heap.size m :=
  ⟨World.cell?_alloc_at _ _ _ _ rfl, World.cell?_alloc_at _ _ _ _ rfl, World.cell?_alloc_at _ _ _ _ rfl, fun o => frozenNew w _ t o⟩
theorem FrG.step {w w' : World} {b br B : Nat} {m : Fr} (h : FrG w b m) (hb : BelX B br w w') (hlt : b < B) (hne : b ≠ br) : FrG w' b m := by
  have e := hb.block b hlt hne
  have c := fun o => World.cell?_of_block (w := w) (a := ⟨b, o, none⟩) e
  exact ⟨(c 0).trans h.c0, (c 1).trans h.c1, (c 2).trans h.c2, fun o => (World.frozen?_of_block (w := w) e).trans (h.f o)⟩
theorem FrG.lt {w : World} {b : Nat} {m : Fr} (h : FrG w b m) : b < w.heap.size := World.block_lt_of_cell? w _ h.c0
theorem FrG.alloc {w : World} {b : Nat} {m : Fr} (h : FrG w b m) (o : Obj) : FrG (w.alloc o) b m := h.step (br := w.heap.size) (BelX.of ((Below.refl _ _).alloc (Nat.le_refl _) o)) h.lt (Nat.ne_of_lt h.lt)
section
variable {w w' : World} {b : Nat} {m : Fr}
theorem FrG.drew (h : FrG w b m) : FrG w.drew b m := ⟨h.c0, h.c1, h.c2, h.f⟩
theorem FrG.drewN (h : FrG w b m) (n : Nat) : FrG (w.drewN n) b m := ⟨h.c0, h.c1, h.c2, h.f⟩
theorem FrG.far (h : FrG w b m) {p : Addr} (hp : b ≠ p.block) (u : Value) : FrG (w.setCell p u) b m := by
  have e := Below.heap_setCell w p u b hp
  have c := fun o => World.cell?_of_block (w := w) (a := ⟨b, o, none⟩) e
  exact ⟨(c 0).trans h.c0, (c 1).trans h.c1, (c 2).trans h.c2, fun o => (World.frozen?_of_block (w := w) e).trans (h.f o)⟩
theorem FrG.below (h : FrG w b m) (hb : Below w.heap.size w w') : FrG w' b m := h.step (br := w.heap.size) (BelX.of hb) h.lt (Nat.ne_of_lt h.lt)
theorem FrG.put (h : FrG w b m) (y : Fr) : FrG (((w.setCell ⟨b, 0, none⟩ (.int .i64 y.re)).setCell ⟨b, 1, none⟩ (.int .i64 y.im)).setCell ⟨b, 2, none⟩ (.int .i64 y.den)) b y :=
  ⟨by simp [go_sem, h.c0, h.c1, h.c2, h.f], by simp [go_sem, h.c0, h.c1, h.c2, h.f], by simp [go_sem, h.c0, h.c1, h.c2, h.f], fun o => by simp [go_sem, h.f]⟩
end
theorem FrG.three {w : World} {b : Nat} {m : Fr} (h : FrG w b m) : w.cell? ⟨b, 0, none⟩ = some (.int .i64 m.re) ∧ w.cell? ⟨b, 1, none⟩ = some (.int .i64 m.im) ∧ w.cell? ⟨b, 2, none⟩ = some (.int .i64 m.den) := ⟨h.c0, h.c1, h.c2⟩
end
end Go.Proofs.YtodhbkinbcemnaaGreatDoor
