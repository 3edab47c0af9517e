/-
  An argument that is a list of fractions, opened.
-/
import Derived.Test.YtalcjmefmffcnaaDoorPg
import Derived.Test.YtalcjmefmffcnaaDoorPj
import Derived.ChangeSlices
import Derived.Deep.Slices
namespace Go.Proofs.YtalcjmefmffcnaaDoor
set_option linter.unusedSimpArgs false
set_option linter.unusedVariables false
open Go.ChangeShapes Go.WideShapes Go.ChangeAt Go.RowKit Go.WideElems Go.Deep
theorem co_LSta : Tryd.prog.cellsOf 23 = 2 := by kernel_rfl
theorem fl_LSta : Flat Tryd.prog 23 2 2 := flat_struct2 Tryd.underlying23 fl_int co_int rfl fl_int co_int rfl co_LSta
set_option maxRecDepth 100000 in
theorem open_LSta {H : Type} {enc : TypeId × Value → H} {W : World} {b0 base : Nat} {spare : Nat → Bool} {held : Bool} {v : Value} {d : DataW H} {p : List MemPlace}
    (hv : Value.okWide Tryd.prog W .any b0 23 v) (h : DataW.Trod enc Tryd.prog W base spare held 23 v d p) : ∃ a : Sta, v = stv a := by
  obtain ⟨cs, rfl, hsz⟩ := okWide_struct Tryd.underlying23 hv
  obtain ⟨fuel, hf⟩ := h
  obtain ⟨hl, _, hk⟩ := fl_LSta hf
  obtain ⟨l⟩ := cs
  simp only [Value.cells] at hl hk
  obtain ⟨a, ha⟩ := hk 0 (by omega)
  obtain ⟨b, hb⟩ := hk 1 (by omega)
  refine ⟨⟨a, b⟩, ?_⟩
  have e : l = [.int .i64 a, .int .i64 b] := by
    match l, hl, ha, hb with
    | [x, y], _, ha, hb => simp at ha hb; rw [ha, hb]
  rw [e]
def zsa0 : Sta := ⟨0, 0⟩
set_option maxRecDepth 100000 in
theorem open_LSas {H : Type} {enc : TypeId × Value → H} {W : World} {b0 base : Nat} {spare : Nat → Bool} {held : Bool} {v : Value} {d : DataW H} {p : List MemPlace}
    (hv : Value.okWide Tryd.prog W .any b0 49 v) (h : DataW.Trod enc Tryd.prog W base spare held 49 v d p) : ∃ A len cap xs, v = .slice A len cap ∧ Sas A len cap xs W := by
  obtain ⟨a0, len, cap, rfl⟩ := okWide_slice Tryd.underlying49 hv
  obtain ⟨fuel, hf⟩ := h
  rcases open_slice Tryd.underlying49 hf with ⟨hcs, _⟩ | ⟨a, len', cap', m, n, D, Pl, hcs, _, hl, hm, hmm, _, hi⟩
  · simp [Value.cells] at hcs
    obtain ⟨rfl, rfl, rfl⟩ := hcs
    exact ⟨none, 0, 0, [], rfl, rfl, Nat.le_refl _, by omega, fun h0 => by omega⟩
  · simp [Value.cells] at hcs
    obtain ⟨rfl, rfl, rfl⟩ := hcs
    have hlm : len ≤ m := by rw [hmm]; split <;> omega
    obtain ⟨b, off, spot⟩ := a
    have hel : ∀ i, i < len → ∃ s : Sta, ∀ j u, (staL s)[j]? = some u → W.cell? ((⟨b, off, spot⟩ : Addr).add (i * 2 + j)) = some u := by
      intro i hil
      obtain ⟨cs', hc, ht⟩ := hi i (by omega)
      rw [co_LSta] at hc
      obtain ⟨_, hlen, hcell⟩ := World.cells?_some hc
      obtain ⟨_, _, hk⟩ := fl_LSta ht
      obtain ⟨k0, e0⟩ := hk 0 (by omega)
      obtain ⟨k1, e1⟩ := hk 1 (by omega)
      refine ⟨⟨k0, k1⟩, fun j u hj => ?_⟩
      have hj4 : j < 2 := by have := (List.getElem?_eq_some_iff.1 hj).1; simpa [staL] using this
      have hcj := hcell j hj4
      rw [add_add] at hcj
      rw [hcj]
      match j, hj4 with
      | 0, _ => rw [e0]; simpa [staL] using hj
      | 1, _ => rw [e1]; simpa [staL] using hj
    obtain ⟨f, hfn⟩ : ∃ f : Nat → Sta, ∀ i, i < len → ∀ j u, (staL (f i))[j]? = some u → W.cell? ((⟨b, off, spot⟩ : Addr).add (i * 2 + j)) = some u :=
      ⟨fun i => if h : i < len then (hel i h).choose else zsa0, fun i h => by simp only [dif_pos h]; exact (hel i h).choose_spec⟩
    refine ⟨some ⟨b, off, spot⟩, len, cap, (List.range len).map f, rfl, by simp, hl, by unfold maxLen at hm; omega, fun h0 => ?_⟩
    have c0 := hfn 0 h0 0 _ rfl
    have hs : spot = none := World.cell?_spot (a := (⟨b, off, spot⟩ : Addr)) (by simpa [Addr.add] using c0)
    subst hs
    have hadd : ∀ j, (⟨b, off, none⟩ : Addr).add j = ⟨b, off + j, none⟩ := fun j => by unfold Addr.add; split <;> simp_all
    refine ⟨b, off, rfl, ?_, fun i s his => ?_⟩
    · have := World.block_lt_of_cell? W _ c0
      rw [hadd] at this
      exact this
    · have hil : i < len := by have := (List.getElem?_eq_some_iff.1 his).1; simpa using this
      have e : s = f i := by simp [hil] at his; exact his.symm
      subst e
      have c0 := hfn i hil 0 _ rfl
      have c1 := hfn i hil 1 _ rfl
      rw [hadd] at c0 c1
      exact ⟨c0, c1⟩
end Go.Proofs.YtalcjmefmffcnaaDoor
