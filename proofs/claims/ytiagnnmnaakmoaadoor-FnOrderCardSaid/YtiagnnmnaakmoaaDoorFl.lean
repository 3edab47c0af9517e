/-
  Reading data of whole numbers alone (structs and arrays of them): what the cells hold is what the datum says.
-/
import Derived.Test.YtiagnnmnaakmoaaDoorFr
import Derived.Test.YtiagnnmnaakmoaaDoorJn
namespace Go.Proofs.YtiagnnmnaakmoaaDoor
set_option linter.unusedSimpArgs false
set_option linter.unusedVariables false
open Go.ChangeShapes Go.WideShapes Go.ChangeAt Go.RowKit Go.WideElems

/-- The cells that a datum of whole numbers stands for. -/
def cellsD {H : Type} : Nat → DataW H → List Value
  | 0, _ => []
  | _ + 1, .lit (.int k n) => [.int k n]
  | m + 1, .agg parts => parts.flatMap (cellsD m)
  | _, _ => []

/-- Every reading at this type is of n cells, all of them whole numbers, and the datum tells them. -/
def Flat (P : Program) (t : TypeId) (n m : Nat) : Prop := ∀ {H : Type} {enc : TypeId × Value → H} {w : World} {base : Nat} {spare : Nat → Bool} {held : Bool} {fuel : Nat} {cs : List Value} {x : DataW H × List MemPlace},
  DataW.trod enc P w base spare held fuel t cs = some x → cs.length = n ∧ cs = cellsD m x.1 ∧ ∀ i, i < n → ∃ k : Int, cs[i]? = some (.int .i64 k)
section
variable {P : Program} {t : TypeId}
theorem flat_int (h : P.underlying t = some (.int .i64)) : Flat P t 1 1 := by
  intro H enc w base spare held fuel cs x hx
  obtain ⟨k, rfl, rfl, _⟩ := DataW.trod_int h hx
  exact ⟨rfl, rfl, fun i hi => ⟨k, by rw [show i = 0 by omega]; rfl⟩⟩
theorem take_drop_parts (cs : List Value) (n : Nat) : ∀ (k : Nat), cs.length = k * n → (List.range k).flatMap (fun i => (cs.drop (i * n)).take n) = cs := by
  intro k
  induction k generalizing cs with
  | zero => intro h; simp at h; simp [h]
  | succ k ih =>
    intro h
    rw [List.range_succ_eq_map, List.flatMap_cons, List.flatMap_map]
    have h1 : (cs.drop n).length = k * n := by rw [List.length_drop, h, Nat.succ_mul]; omega
    have := ih (cs.drop n) h1
    simp only [List.drop_drop] at this
    have e : (fun a => List.take n (List.drop ((a + 1) * n) cs)) = fun i => List.take n (List.drop (n + i * n) cs) := by
      funext a; rw [Nat.succ_mul, Nat.add_comm]
    simp only [Nat.zero_mul, List.drop_zero]
    show List.take n cs ++ List.flatMap (fun a => List.take n (List.drop (a.succ * n) cs)) (List.range k) = cs
    rw [show (fun a => List.take n (List.drop (Nat.succ a * n) cs)) = fun i => List.take n (List.drop (n + i * n) cs) from e, this, List.take_append_drop]
theorem flat_array {n e s m : Nat} (h : P.underlying t = some (.array n e)) (he : Flat P e s m) (hs : P.cellsOf e = s) (hc : P.cellsOf t = n * s) : Flat P t (n * s) (m + 1) := by
  intro H enc w base spare held fuel cs x hx
  obtain ⟨xs, f, _, rfl, hl, hlen, hf⟩ := DataW.trod_array h hx
  rw [hs] at hf
  rw [hc] at hl
  have part : ∀ i, i < n → ∃ y, xs[i]? = some y ∧ ((cs.drop (i * s)).take s).length = s ∧ (cs.drop (i * s)).take s = cellsD m y.1 ∧ ∀ j, j < s → ∃ k : Int, ((cs.drop (i * s)).take s)[j]? = some (.int .i64 k) := by
    intro i hi
    have h1 := hf i hi
    have h2 : xs[i]? = some xs[i] := List.getElem?_eq_getElem (by omega)
    rw [h2] at h1
    obtain ⟨a, b, c⟩ := he h1
    exact ⟨_, h2, a, b, c⟩
  refine ⟨hl, ?_, fun i hi => ?_⟩
  · show cs = (xs.map (·.1)).flatMap (cellsD m)
    rw [← take_drop_parts cs s n hl, List.flatMap_map]
    have : xs = (List.range n).map (fun i => xs[i]?.getD (.nil, [])) := by
      apply List.ext_getElem?
      intro i
      by_cases hi : i < n
      · simp [List.getElem?_range hi, List.getElem?_eq_getElem (show i < xs.length by omega)]
      · rw [List.getElem?_eq_none (by omega), List.getElem?_eq_none (by simp; omega)]
    rw [this, List.flatMap_map]
    have hcong : ∀ l : List Nat, (∀ i ∈ l, i < n) → l.flatMap (fun i => (cs.drop (i * s)).take s) = l.flatMap (fun a => cellsD m (((List.range n).map (fun i => xs[i]?.getD (.nil, [])))[a]?.getD (.nil, [])).1) := by
      intro l
      induction l with
      | nil => intro _; rfl
      | cons a l ih =>
        intro hm
        rw [List.flatMap_cons, List.flatMap_cons, ih (fun i hi => hm i (by simp [hi]))]
        obtain ⟨y, hy, _, hb, _⟩ := part a (hm a (by simp))
        rw [hb, ← this, hy]
        rfl
    have := hcong (List.range n) (fun i hi => List.mem_range.1 hi)
    rw [this]
    simp only [← ‹xs = _›]
  · have hs0 : 0 < s := by
      rcases Nat.eq_zero_or_pos s with h0 | h0
      · subst h0; omega
      · exact h0
    have hq : i / s < n := Nat.div_lt_of_lt_mul (by rw [Nat.mul_comm]; exact hi)
    obtain ⟨y, _, _, _, hk⟩ := part (i / s) hq
    obtain ⟨k, hk⟩ := hk (i % s) (Nat.mod_lt _ hs0)
    refine ⟨k, ?_⟩
    rw [List.getElem?_take, if_pos (Nat.mod_lt _ hs0), List.getElem?_drop, Nat.mul_comm, Nat.div_add_mod] at hk
    exact hk
theorem flat_struct1 {f0 : Field} {s m : Nat} (h : P.underlying t = some (.struct #[f0])) (h0 : Flat P f0.type s m) (k0 : P.cellsOf f0.type = s) (o0 : f0.offset = 0) (hc : P.cellsOf t = s) : Flat P t s (m + 1) := by
  intro H enc w base spare held fuel cs x hx
  obtain ⟨xs, f, _, rfl, hl, hlen, hf⟩ := DataW.trod_struct h hx
  match xs, hlen with
  | [y], _ =>
    have h1 := hf 0 f0 rfl
    rw [o0, k0, List.drop_zero, List.take_of_length_le (by omega)] at h1
    obtain ⟨a, b, c⟩ := h0 h1
    exact ⟨a, by rw [b]; show _ = [y.1].flatMap (cellsD m); simp, c⟩
theorem flat_struct2 {f0 f1 : Field} {s0 s1 m : Nat} (h : P.underlying t = some (.struct #[f0, f1])) (h0 : Flat P f0.type s0 m) (k0 : P.cellsOf f0.type = s0) (o0 : f0.offset = 0)
    (h1 : Flat P f1.type s1 m) (k1 : P.cellsOf f1.type = s1) (o1 : f1.offset = s0) (hc : P.cellsOf t = s0 + s1) : Flat P t (s0 + s1) (m + 1) := by
  intro H enc w base spare held fuel cs x hx
  obtain ⟨xs, f, _, rfl, hl, hlen, hf⟩ := DataW.trod_struct h hx
  match xs, hlen with
  | [y0, y1], _ =>
    have g0 := hf 0 f0 rfl
    have g1 := hf 1 f1 rfl
    rw [o0, k0, List.drop_zero] at g0
    rw [o1, k1, List.take_of_length_le (by simp; omega)] at g1
    obtain ⟨a0, b0, c0⟩ := h0 g0
    obtain ⟨a1, b1, c1⟩ := h1 g1
    refine ⟨by omega, ?_, fun i hi => ?_⟩
    · show cs = [y0.1, y1.1].flatMap (cellsD m)
      simp only [List.flatMap_cons, List.flatMap_nil, List.append_nil, ← b0, ← b1, List.take_append_drop]
    · by_cases hi0 : i < s0
      · obtain ⟨k, hk⟩ := c0 i hi0
        exact ⟨k, by rw [List.getElem?_take, if_pos hi0] at hk; exact hk⟩
      · obtain ⟨k, hk⟩ := c1 (i - s0) (by omega)
        exact ⟨k, by rw [List.getElem?_drop, show s0 + (i - s0) = i by omega] at hk; exact hk⟩
theorem flat_struct3 {f0 f1 f2 : Field} {m : Nat} (h : P.underlying t = some (.struct #[f0, f1, f2])) (h0 : Flat P f0.type 1 m) (k0 : P.cellsOf f0.type = 1) (o0 : f0.offset = 0)
    (h1 : Flat P f1.type 1 m) (k1 : P.cellsOf f1.type = 1) (o1 : f1.offset = 1) (h2 : Flat P f2.type 1 m) (k2 : P.cellsOf f2.type = 1) (o2 : f2.offset = 2) (hc : P.cellsOf t = 3) : Flat P t 3 (m + 1) := by
  intro H enc w base spare held fuel cs x hx
  obtain ⟨xs, f, _, rfl, hl, hlen, hf⟩ := DataW.trod_struct h hx
  match xs, hlen with
  | [y0, y1, y2], _ =>
    have g0 := hf 0 f0 rfl
    have g1 := hf 1 f1 rfl
    have g2 := hf 2 f2 rfl
    rw [o0, k0] at g0
    rw [o1, k1] at g1
    rw [o2, k2] at g2
    obtain ⟨c0, c1, c2, rfl⟩ : ∃ a b c, cs = [a, b, c] := by
      match cs, hl.trans hc with
      | [a, b, c], _ => exact ⟨a, b, c, rfl⟩
    obtain ⟨_, b0, d0⟩ := h0 g0
    obtain ⟨_, b1, d1⟩ := h1 g1
    obtain ⟨_, b2, d2⟩ := h2 g2
    refine ⟨rfl, ?_, fun i hi => ?_⟩
    · show [c0, c1, c2] = [y0.1, y1.1, y2.1].flatMap (cellsD m)
      simp only [List.flatMap_cons, List.flatMap_nil, List.append_nil, ← b0, ← b1, ← b2]
      rfl
    · rcases (show i = 0 ∨ i = 1 ∨ i = 2 by omega) with rfl | rfl | rfl
      · exact d0 0 (by omega)
      · exact d1 0 (by omega)
      · exact d2 0 (by omega)
theorem flat_struct4 {f0 f1 f2 f3 : Field} {m : Nat} (h : P.underlying t = some (.struct #[f0, f1, f2, f3])) (h0 : Flat P f0.type 1 m) (k0 : P.cellsOf f0.type = 1) (o0 : f0.offset = 0)
    (h1 : Flat P f1.type 1 m) (k1 : P.cellsOf f1.type = 1) (o1 : f1.offset = 1) (h2 : Flat P f2.type 1 m) (k2 : P.cellsOf f2.type = 1) (o2 : f2.offset = 2)
    (h3 : Flat P f3.type 1 m) (k3 : P.cellsOf f3.type = 1) (o3 : f3.offset = 3) (hc : P.cellsOf t = 4) : Flat P t 4 (m + 1) := by
  intro H enc w base spare held fuel cs x hx
  obtain ⟨xs, f, _, rfl, hl, hlen, hf⟩ := DataW.trod_struct h hx
  match xs, hlen with
  | [y0, y1, y2, y3], _ =>
    have g0 := hf 0 f0 rfl
    have g1 := hf 1 f1 rfl
    have g2 := hf 2 f2 rfl
    have g3 := hf 3 f3 rfl
    rw [o0, k0] at g0
    rw [o1, k1] at g1
    rw [o2, k2] at g2
    rw [o3, k3] at g3
    obtain ⟨c0, c1, c2, c3, rfl⟩ : ∃ a b c d, cs = [a, b, c, d] := by
      match cs, hl.trans hc with
      | [a, b, c, d], _ => exact ⟨a, b, c, d, rfl⟩
    obtain ⟨_, b0, d0⟩ := h0 g0
    obtain ⟨_, b1, d1⟩ := h1 g1
    obtain ⟨_, b2, d2⟩ := h2 g2
    obtain ⟨_, b3, d3⟩ := h3 g3
    refine ⟨rfl, ?_, fun i hi => ?_⟩
    · show [c0, c1, c2, c3] = [y0.1, y1.1, y2.1, y3.1].flatMap (cellsD m)
      simp only [List.flatMap_cons, List.flatMap_nil, List.append_nil, ← b0, ← b1, ← b2, ← b3]
      rfl
    · rcases (show i = 0 ∨ i = 1 ∨ i = 2 ∨ i = 3 by omega) with rfl | rfl | rfl | rfl
      · exact d0 0 (by omega)
      · exact d1 0 (by omega)
      · exact d2 0 (by omega)
      · exact d3 0 (by omega)
/-- A variable that the row lists: its cells. -/
theorem var_cells {w : World} {n : String} {g s m : Nat} {cs : Array Value} {H : Type} {enc : TypeId × Value → H} {base : Nat} {spare : Nat → Bool} {held : Bool} {fuel : Nat} {d : DataW H} {p : List MemPlace}
    (hF : Flat P t s m) (hg : P.globalNamed n = some g) (hv : w.var? P n = some cs) (hd : DataW.trod enc P w base spare held fuel t cs.toList = some (d, p)) : ∀ i : Nat, w.cell? ⟨g, i, none⟩ = (cellsD m d)[i]? := by
  intro i
  rw [World.var?_cell hg hv i]
  obtain ⟨_, h, _⟩ := hF hd
  rw [← h]
  simp
end
end Go.Proofs.YtiagnnmnaakmoaaDoor
