/-
  Sections of a fibre: plain definitions, and how a list of them lies in memory. Nothing is claimed here; the other texts of this claim use it.
-/
import Derived.Test.YtiagnnmnaakmoaaDoorPl
import Derived.Deep.Slices
import Derived.OwnWalk
namespace Go.Proofs.YtiagnnmnaakmoaaDoor
set_option linter.unusedSimpArgs false
set_option linter.unusedVariables false
open Go.RowKit
/-- A section of a fibre. -/
structure Sec where
  p : Int
  q : Int
  ph : Int
  t : Int
  deriving DecidableEq
abbrev secv (s : Sec) : Value := .agg #[.int .i64 s.p, .int .i64 s.q, .int .i64 s.ph, .int .i64 s.t]
def secL (s : Sec) : List Value := [.int .i64 s.p, .int .i64 s.q, .int .i64 s.ph, .int .i64 s.t]
def rowL (xs : List Sec) : List Value := xs.flatMap secL
theorem rowL_cons (s : Sec) (xs : List Sec) : rowL (s :: xs) = secL s ++ rowL xs := by simp [rowL]
theorem rowL_append (xs ys : List Sec) : rowL (xs ++ ys) = rowL xs ++ rowL ys := by simp [rowL]
theorem rowL_one (s : Sec) : rowL [s] = secL s := by simp [rowL]
theorem rowL_length : ∀ xs : List Sec, (rowL xs).length = xs.length * 4
  | [] => rfl
  | s :: xs => by rw [rowL_cons, List.length_append, rowL_length xs, List.length_cons]; simp only [secL, List.length_cons, List.length_nil]; omega
theorem rowL_get : ∀ (xs : List Sec) (i : Nat) (s : Sec), xs[i]? = some s → ∀ j, j < 4 → (rowL xs)[i * 4 + j]? = (secL s)[j]?
  | [], i, s, h, _, _ => by simp at h
  | x :: xs, 0, s, h, j, hj => by
    simp at h; subst h
    rw [rowL_cons, Nat.zero_mul, Nat.zero_add, List.getElem?_append_left (by simpa [secL] using hj)]
  | x :: xs, i + 1, s, h, j, hj => by
    rw [rowL_cons, List.getElem?_append_right (by simp [secL]; omega), show (i + 1) * 4 + j - (secL x).length = i * 4 + j by simp [secL]; omega]
    exact rowL_get xs i s (by simpa using h) j hj
/-- The cells of one section, from a place on. -/
def SecAt (w : World) (b o : Nat) (s : Sec) : Prop :=
  w.cell? ⟨b, o, none⟩ = some (.int .i64 s.p) ∧ w.cell? ⟨b, o + 1, none⟩ = some (.int .i64 s.q) ∧ w.cell? ⟨b, o + 2, none⟩ = some (.int .i64 s.ph) ∧ w.cell? ⟨b, o + 3, none⟩ = some (.int .i64 s.t)
theorem SecAt.below {w w' : World} {b o B : Nat} {s : Sec} (h : SecAt w b o s) (hb : Below B w w') (hlt : b < B) : SecAt w' b o s :=
  ⟨(hb.cell hlt).trans h.1, (hb.cell hlt).trans h.2.1, (hb.cell hlt).trans h.2.2.1, (hb.cell hlt).trans h.2.2.2⟩

/-- A list of sections that lies in the world, to be read. -/
def Secs (A : Option Addr) (len cap : Nat) (xs : List Sec) (w : World) : Prop := xs.length = len ∧ len ≤ cap ∧ cap ≤ 9223372036854775807 ∧
  (0 < len → ∃ bb off : Nat, A = some ⟨bb, off, none⟩ ∧ bb < w.heap.size ∧ ∀ i s, xs[i]? = some s → SecAt w bb (off + i * 4) s)
theorem Secs.below {A : Option Addr} {len cap : Nat} {xs : List Sec} {w w' : World} (h : Secs A len cap xs w) (hb : Below w.heap.size w w') : Secs A len cap xs w' := by
  obtain ⟨h1, h2, h3, h4⟩ := h
  refine ⟨h1, h2, h3, fun h0 => ?_⟩
  obtain ⟨bb, off, e, hbb, hc⟩ := h4 h0
  exact ⟨bb, off, e, Nat.lt_of_lt_of_le hbb hb.size, fun i s hi => (hc i s hi).below hb hbb⟩
theorem Secs.take {A : Option Addr} {len cap : Nat} {xs : List Sec} {w : World} (h : Secs A len cap xs w) (n : Nat) (hn : n ≤ len) : Secs A n cap (xs.take n) w := by
  obtain ⟨h1, h2, h3, h4⟩ := h
  refine ⟨by rw [List.length_take]; omega, by omega, h3, fun h0 => ?_⟩
  obtain ⟨bb, off, e, hbb, hc⟩ := h4 (by omega)
  refine ⟨bb, off, e, hbb, fun i s hi => hc i s ?_⟩
  rw [List.getElem?_take] at hi
  split at hi
  · exact hi
  · cases hi
/-- Element i, to be read in a later world. -/
theorem Secs.at {A : Option Addr} {len cap : Nat} {xs : List Sec} {w : World} (h : Secs A len cap xs w) {w' : World} (hb : Below w.heap.size w w') {k : Nat} (hk : k < len) :
    ∃ (bb off : Nat) (s : Sec), A = some ⟨bb, off, none⟩ ∧ bb < w.heap.size ∧ xs[k]? = some s ∧ SecAt w' bb (off + k * 4) s := by
  obtain ⟨h1, h2, h3, h4⟩ := h
  obtain ⟨bb, off, e, hbb, hc⟩ := h4 (by omega)
  have hs : xs[k]? = some (xs[k]'(by omega)) := List.getElem?_eq_getElem (by omega)
  exact ⟨bb, off, _, e, hbb, hs, (hc k _ hs).below hb hbb⟩

/-- A list of sections that the call made: no cell of it is frozen, and it begins at the head of its block. -/
def Own (base : Nat) (v : Value) (xs : List Sec) (w : World) : Prop := w.ownsRow base 59 4 v xs.length (rowL xs)
theorem Own.nil (base : Nat) (w : World) : Own base (.slice none 0 0) [] w := World.ownsRow_nil _ _ _ _
theorem Own.below {base : Nat} {v : Value} {xs : List Sec} {w w' : World} (h : Own base v xs w) (hb : Below w.heap.size w w') : Own base v xs w' := by
  refine ⟨h.1, ?_⟩
  rcases h.2 with hn | ⟨g, cap, cur, rfl, hbg, hg, rest⟩
  · exact .inl hn
  · exact .inr ⟨g, cap, cur, rfl, hbg, (hb.block g (Array.getElem?_eq_some_iff.1 hg).1).trans hg, rest⟩
theorem Own.grown {base : Nat} {v : Value} {xs : List Sec} {w w' : World} {row : Option Nat} (h : Own base v xs w) (hg : w.grownBy w' row) (hne : v.ownBlock = none ∨ v.ownBlock ≠ row) : Own base v xs w' := World.ownsRow.kept h hg hne
theorem Own.alloc {base : Nat} {v : Value} {xs : List Sec} {w : World} (h : Own base v xs w) (o : Obj) : Own base v xs (w.alloc o) := World.ownsRow.alloc h o
theorem Own.drew {base : Nat} {v : Value} {xs : List Sec} {w : World} (h : Own base v xs w) : Own base v xs w.drew := h
theorem Own.drewN {base : Nat} {v : Value} {xs : List Sec} {w : World} (h : Own base v xs w) (n : Nat) : Own base v xs (w.drewN n) := h
theorem Own.mono {base base' : Nat} {v : Value} {xs : List Sec} {w : World} (h : Own base v xs w) (hb : base' ≤ base) : Own base' v xs w := by
  refine ⟨h.1, ?_⟩
  rcases h.2 with hn | ⟨g, cap, cur, rfl, hbg, rest⟩
  · exact .inl hn
  · exact .inr ⟨g, cap, cur, rfl, by omega, rest⟩
theorem add_none (g j : Nat) : (⟨g, 0, none⟩ : Addr).add j = ⟨g, j, none⟩ := by unfold Addr.add; split <;> simp_all
/-- What is owned can be read. -/
theorem Own.secs {base : Nat} {v : Value} {xs : List Sec} {w : World} (h : Own base v xs w) : ∃ A cap, v = .slice A xs.length cap ∧ Secs A xs.length cap xs w := by
  rcases h.2 with ⟨rfl, h0⟩ | ⟨g, cap, cur, rfl, hbg, hg, hn, hm, hs, ht⟩
  · exact ⟨none, 0, by rw [h0], rfl, by omega, by omega, fun h => by omega⟩
  · have hlt := (Array.getElem?_eq_some_iff.1 hg).1
    have hc := World.ownsRow.cells h (g := g) rfl
    have key : ∀ i s, xs[i]? = some s → ∀ j u, (secL s)[j]? = some u → w.cell? ⟨g, i * 4 + j, none⟩ = some u := by
      intro i s hi j u hj
      have hj4 : j < 4 := by have := (List.getElem?_eq_some_iff.1 hj).1; simpa [secL] using this
      have := hc (i * 4 + j) u ((rowL_get xs i s hi j hj4).trans hj)
      rwa [add_none] at this
    refine ⟨some ⟨g, 0, none⟩, cap, rfl, rfl, hn, by unfold maxLen at hm; omega, fun _ => ⟨g, 0, rfl, hlt, fun i s hi => ?_⟩⟩
    rw [Nat.zero_add]
    exact ⟨key i s hi 0 _ rfl, key i s hi 1 _ rfl, key i s hi 2 _ rfl, key i s hi 3 _ rfl⟩
/-- Its own cells may be written. -/
theorem Own.free {base : Nat} {v : Value} {xs : List Sec} {w : World} (h : Own base v xs w) (k : Nat) (hk : k < xs.length) : ∃ g cap, v = .slice (some ⟨g, 0, none⟩) xs.length cap ∧ base ≤ g ∧ g < w.heap.size ∧ ∀ j, w.frozen? ⟨g, j, none⟩ = false := by
  rcases h.2 with ⟨rfl, h0⟩ | ⟨g, cap, cur, rfl, hbg, hg, hn, hm, hs, ht⟩
  · omega
  · exact ⟨g, cap, rfl, hbg, (Array.getElem?_eq_some_iff.1 hg).1, fun j => by simp [World.frozen?, hg]⟩
theorem Own.lt {base : Nat} {v : Value} {xs : List Sec} {w : World} (h : Own base v xs w) : ∀ k, v.ownBlock = some k → base ≤ k ∧ k < w.heap.size := World.ownsRow.lt h
/-- One cell of it is written. -/
theorem ownsRow_set {base e size n : Nat} {v : Value} {cs : List Value} {w : World} (h : w.ownsRow base e size v n cs) {g : Nat} (hg : v.ownBlock = some g) (i : Nat) (hi : i < cs.length) (u : Value) (hu : u.oneCell' = true) :
    (w.setCell ⟨g, i, none⟩ u).ownsRow base e size v n (cs.set i u) := by
  refine ⟨by rw [List.length_set]; exact h.1, ?_⟩
  rcases h.2 with ⟨rfl, h0⟩ | ⟨g', cap, cur, rfl, hbg, hgg, hn, hm, hs, ht⟩
  · simp [Value.ownBlock] at hg
  · simp [Value.ownBlock] at hg
    subst hg
    refine .inr ⟨g', cap, cur.setIfInBounds i u, rfl, hbg, ?_, hn, hm, by simpa using hs, ?_⟩
    · simp [World.setCell, Array.getElem?_modify, hgg]
    · rw [Array.toList_setIfInBounds, List.take_set, ht]
theorem rowL_put : ∀ (ys : List Sec) (i : Nat) (s : Sec), i < ys.length → ((((rowL ys).set (i * 4) (.int .i64 s.p)).set (i * 4 + 1) (.int .i64 s.q)).set (i * 4 + 2) (.int .i64 s.ph)).set (i * 4 + 3) (.int .i64 s.t) = rowL (ys.set i s)
  | [], i, s, h => by simp at h
  | y :: ys, 0, s, _ => by simp [rowL_cons, secL]
  | y :: ys, i + 1, s, h => by
    rw [List.set_cons_succ, rowL_cons, rowL_cons, ← rowL_put ys i s (by simpa using h), show (i + 1) * 4 = i * 4 + 4 by omega]
    simp only [secL, List.cons_append, List.nil_append, List.set_cons_succ, show i * 4 + 4 = i * 4 + 1 + 1 + 1 + 1 by omega, show i * 4 + 1 + 1 + 1 + 1 + 1 = (i * 4 + 1) + 1 + 1 + 1 + 1 by omega, show i * 4 + 1 + 1 + 1 + 1 + 2 = (i * 4 + 2) + 1 + 1 + 1 + 1 by omega, show i * 4 + 1 + 1 + 1 + 1 + 3 = (i * 4 + 3) + 1 + 1 + 1 + 1 by omega]
/-- One section of it is written anew. -/
theorem Own.put {base : Nat} {v : Value} {ys : List Sec} {w : World} (h : Own base v ys w) {g : Nat} (hg : v.ownBlock = some g) (i : Nat) (hi : i < ys.length) (s : Sec) :
    Own base v (ys.set i s) ((((w.setCell ⟨g, i * 4, none⟩ (.int .i64 s.p)).setCell ⟨g, i * 4 + 1, none⟩ (.int .i64 s.q)).setCell ⟨g, i * 4 + 2, none⟩ (.int .i64 s.ph)).setCell ⟨g, i * 4 + 3, none⟩ (.int .i64 s.t)) := by
  have hl := rowL_length ys
  have h1 := ownsRow_set h hg (i * 4) (by omega) (.int .i64 s.p) rfl
  have h2 := ownsRow_set h1 hg (i * 4 + 1) (by rw [List.length_set]; omega) (.int .i64 s.q) rfl
  have h3 := ownsRow_set h2 hg (i * 4 + 2) (by rw [List.length_set, List.length_set]; omega) (.int .i64 s.ph) rfl
  have h4 := ownsRow_set h3 hg (i * 4 + 3) (by rw [List.length_set, List.length_set, List.length_set]; omega) (.int .i64 s.t) rfl
  rw [rowL_put ys i s hi] at h4
  unfold Own
  rw [List.length_set]
  exact h4
/-- Element i of what is owned: its place, its cells, and that they may be written. -/
theorem Own.at {base : Nat} {v : Value} {xs : List Sec} {w : World} (h : Own base v xs w) (k : Nat) (s : Sec) (hs : xs[k]? = some s) :
    ∃ g cap, v = .slice (some ⟨g, 0, none⟩) xs.length cap ∧ base ≤ g ∧ g < w.heap.size ∧ SecAt w g (k * 4) s ∧ (w.frozen? ⟨g, k * 4, none⟩ = false ∧ w.frozen? ⟨g, k * 4 + 1, none⟩ = false ∧ w.frozen? ⟨g, k * 4 + 2, none⟩ = false ∧ w.frozen? ⟨g, k * 4 + 3, none⟩ = false) := by
  have hk := (List.getElem?_eq_some_iff.1 hs).1
  obtain ⟨g, cap, e, hb, hlt, hf⟩ := h.free k hk
  obtain ⟨A, cap', e', hS⟩ := h.secs
  obtain ⟨bb, off, s', eA, hbb, hs', hat⟩ := hS.at (Below.refl _ _) hk
  rw [e] at e'
  simp only [Value.slice.injEq, true_and] at e'
  obtain ⟨e1, e2⟩ := e'
  rw [eA] at e1
  simp only [Option.some.injEq, Addr.mk.injEq, and_true] at e1
  obtain ⟨rfl, rfl⟩ := e1
  obtain rfl : s = s' := by rw [hs] at hs'; exact Option.some.inj hs'
  rw [Nat.zero_add] at hat
  exact ⟨g, cap, e, hb, hlt, hat, hf _, hf _, hf _, hf _⟩
theorem Own.block {base : Nat} {v : Value} {xs : List Sec} {w : World} {g n cap : Nat} (_ : Own base v xs w) (e : v = .slice (some ⟨g, 0, none⟩) n cap) : v.ownBlock = some g := by rw [e]; rfl

/-- Zero sections. -/
def zsec : Sec := ⟨0, 0, 0, 0⟩
theorem put_step {xs : List Sec} {n k : Nat} {s : Sec} (hn : xs.length = n) (hk : k < n) (hs : xs[k]? = some s) : (xs.take k ++ List.replicate (n - k) zsec).set k s = xs.take (k + 1) ++ List.replicate (n - (k + 1)) zsec := by
  have hl : (xs.take k).length = k := by rw [List.length_take]; omega
  rw [List.set_append, if_neg (by omega), hl, Nat.sub_self, show n - k = n - (k + 1) + 1 by omega, List.replicate_succ, List.set_cons_zero, List.take_add_one, hs]
  simp
theorem rowL_zero (n : Nat) : rowL (List.replicate n zsec) = (madeCells #[.int .i64 0, .int .i64 0, .int .i64 0, .int .i64 0] (n * 4)).toList := by
  have h1 : rowL (List.replicate n zsec) = List.replicate (n * 4) (.int .i64 0) := by
    rw [List.eq_replicate_iff]
    exact ⟨by rw [rowL_length, List.length_replicate], fun u hu => by
      simp only [rowL, List.mem_flatMap, List.mem_replicate, secL, List.mem_cons, List.not_mem_nil, or_false] at hu
      obtain ⟨s, ⟨_, rfl⟩, rfl | rfl | rfl | rfl⟩ := hu <;> rfl⟩
  have h2 : (madeCells #[.int .i64 0, .int .i64 0, .int .i64 0, .int .i64 0] (n * 4)).toList = List.replicate (n * 4) (.int .i64 0) := by
    rw [List.eq_replicate_iff]
    refine ⟨by simp [madeCells], fun u hu => ?_⟩
    simp [madeCells] at hu
    obtain ⟨x, _, rfl⟩ := hu
    have hx : x % 4 < 4 := Nat.mod_lt _ (by omega)
    generalize x % 4 = y at hx ⊢
    match y, hx with
    | 0, _ => rfl
    | 1, _ => rfl
    | 2, _ => rfl
    | 3, _ => rfl
  rw [h1, h2]
theorem Own.far {base : Nat} {v : Value} {xs : List Sec} {w : World} (h : Own base v xs w) {p : Addr} (hp : ∀ k, v.ownBlock = some k → k ≠ p.block) (u : Value) : Own base v xs (w.setCell p u) := by
  refine ⟨h.1, ?_⟩
  rcases h.2 with hn | ⟨g, cap, cur, rfl, hbg, hg, rest⟩
  · exact .inl hn
  · exact .inr ⟨g, cap, cur, rfl, hbg, (Below.heap_setCell w p u g (hp g rfl)).trans hg, rest⟩
theorem grownBy_trans {a b c : World} {row : Option Nat} (h : a.grownBy b row) (k : b.grownBy c row) : a.grownBy c row :=
  ⟨k.os.trans h.os, k.tape.trans h.tape, k.output.trans h.output, Nat.le_trans h.size k.size, fun i hi hr => (k.block i (Nat.lt_of_lt_of_le hi h.size) hr).trans (h.block i hi hr)⟩
theorem Secs.grown {A : Option Addr} {len cap : Nat} {xs : List Sec} {w w' : World} {row : Option Nat} (h : Secs A len cap xs w) (hg : w.grownBy w' row) (hne : ∀ b o, A = some ⟨b, o, none⟩ → row ≠ some b) : Secs A len cap xs w' := by
  obtain ⟨h1, h2, h3, h4⟩ := h
  refine ⟨h1, h2, h3, fun h0 => ?_⟩
  obtain ⟨bb, off, e, hbb, hc⟩ := h4 h0
  have hk : ∀ p : Addr, p.block = bb → w'.cell? p = w.cell? p := fun p hp => World.cell?_of_block (by rw [hp]; exact hg.block bb hbb (fun e' => hne bb off e e'.symm))
  exact ⟨bb, off, e, Nat.lt_of_lt_of_le hbb hg.size, fun i s hi => ⟨(hk _ rfl).trans (hc i s hi).1, (hk _ rfl).trans (hc i s hi).2.1, (hk _ rfl).trans (hc i s hi).2.2.1, (hk _ rfl).trans (hc i s hi).2.2.2⟩⟩

/-- Whether a direction can be told. -/
def dirOk (p q : Int) : Bool := inB p (-100) 100 && inB q (-100) 100 && !(p == 0 && q == 0)
def dirC (p q : Int) : Fr := (lowI (p * p - q * q) 0 (p * p + q * q)).getD ⟨0, 0, 0⟩
def dirS (p q : Int) : Fr := (lowI (2 * p * q) 0 (p * p + q * q)).getD ⟨0, 0, 0⟩
def secOk (s : Sec) : Bool := dirOk s.p s.q && inB s.ph 0 3 && inB s.t 0 50
def fibOk (xs : List Sec) : Bool := xs.all secOk && decide (xs.length ≤ 8)
theorem all_take_succ {xs : List Sec} {k : Nat} {s : Sec} (h : xs[k]? = some s) : (xs.take (k + 1)).all secOk = ((xs.take k).all secOk && secOk s) := by
  rw [List.take_add_one, h]; simp
theorem all_not {xs : List Sec} {k : Nat} {s : Sec} (h : xs[k]? = some s) (hs : secOk s = false) : fibOk xs = false := by
  have hm : s ∈ xs := List.mem_of_getElem? h
  have : xs.all secOk = false := by
    rw [Bool.eq_false_iff]
    intro hc
    have := List.all_eq_true.1 hc s hm
    rw [hs] at this; cases this
  simp [fibOk, this]
theorem dir_bd (p q : Int) (h : dirOk p q = true) : (1 ≤ p * p + q * q ∧ p * p + q * q ≤ 20000) ∧ (-20000 ≤ p * p - q * q ∧ p * p - q * q ≤ 20000) ∧ (-20000 ≤ 2 * p * q ∧ 2 * p * q ≤ 20000) ∧ (0 ≤ p * p ∧ p * p ≤ 10000) ∧ (0 ≤ q * q ∧ q * q ≤ 10000) ∧ (-200 ≤ 2 * p ∧ 2 * p ≤ 200) := by
  simp only [dirOk, inB, Bool.and_eq_true, decide_eq_true_eq, Bool.not_eq_true', Bool.and_eq_false_iff, beq_eq_false_iff_ne] at h
  obtain ⟨⟨⟨a, b⟩, c, d⟩, e⟩ := h
  have sq : ∀ x : Int, 0 ≤ x * x := fun x => by rw [← Int.natAbs_mul_self]; omega
  have sq1 : ∀ x : Int, x ≠ 0 → 1 ≤ x * x := fun x hx => by
    have h0 := sq x
    have : x * x ≠ 0 := fun e => hx (by simpa using Int.mul_eq_zero.1 e)
    omega
  have up : ∀ x y : Int, -100 ≤ x → x ≤ 100 → -100 ≤ y → y ≤ 100 → -10000 ≤ x * y ∧ x * y ≤ 10000 := fun x y h1 h2 h3 h4 => by
    have h : (x * y).natAbs ≤ 100 * 100 := by
      rw [Int.natAbs_mul]
      exact Nat.mul_le_mul (by omega) (by omega)
    omega
  have p1 := up p p a b a b
  have q1 := up q q c d c d
  have pq := up p q a b c d
  have p0 := sq p
  have q0 := sq q
  have : 1 ≤ p * p + q * q := by
    rcases e with e | e
    · have := sq1 p e; omega
    · have := sq1 q e; omega
  have e2 : 2 * p * q = 2 * (p * q) := by rw [Int.mul_assoc]
  omega
end Go.Proofs.YtiagnnmnaakmoaaDoor
