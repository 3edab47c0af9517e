/-
  An argument that is a list of sections, opened.
-/
import Derived.Test.YtiagnnmnaakmoaaDoorFb
import Derived.Test.YtiagnnmnaakmoaaDoorSe
import Derived.ChangeSlices
import Derived.Deep.Slices
namespace Go.Proofs.YtiagnnmnaakmoaaDoor
set_option linter.unusedSimpArgs false
set_option linter.unusedVariables false
open Go.ChangeShapes Go.WideShapes Go.ChangeAt Go.RowKit Go.WideElems Go.Deep
theorem co_LSec : Tryd.prog.cellsOf 61 = 4 := by kernel_rfl
theorem fl_LSec : Flat Tryd.prog 61 4 2 := flat_struct4 Tryd.underlying61 fl_int co_int rfl fl_int co_int rfl fl_int co_int rfl fl_int co_int rfl co_LSec
set_option maxRecDepth 100000 in
theorem open_LSecs {H : Type} {enc : TypeId × Value → H} {W : World} {b0 base : Nat} {spare : Nat → Bool} {held : Bool} {v : Value} {d : DataW H} {p : List MemPlace}
    (hv : Value.okWide Tryd.prog W .any b0 22 v) (h : DataW.Trod enc Tryd.prog W base spare held 22 v d p) : ∃ A len cap xs, v = .slice A len cap ∧ Secs A len cap xs W := by
  obtain ⟨a0, len, cap, rfl⟩ := okWide_slice Tryd.underlying22 hv
  obtain ⟨fuel, hf⟩ := h
  rcases open_slice Tryd.underlying22 hf with ⟨hcs, _⟩ | ⟨a, len', cap', m, n, D, Pl, hcs, _, hl, hm, hmm, _, hi⟩
  · simp [Value.cells] at hcs
    obtain ⟨rfl, rfl, rfl⟩ := hcs
    exact ⟨none, 0, 0, [], rfl, rfl, Nat.le_refl _, by omega, fun h0 => by omega⟩
  · simp [Value.cells] at hcs
    obtain ⟨rfl, rfl, rfl⟩ := hcs
    have hlm : len ≤ m := by rw [hmm]; split <;> omega
    obtain ⟨b, off, spot⟩ := a
    have hel : ∀ i, i < len → ∃ s : Sec, ∀ j u, (secL s)[j]? = some u → W.cell? ((⟨b, off, spot⟩ : Addr).add (i * 4 + j)) = some u := by
      intro i hil
      obtain ⟨cs', hc, ht⟩ := hi i (by omega)
      rw [co_LSec] at hc
      obtain ⟨_, hlen, hcell⟩ := World.cells?_some hc
      obtain ⟨_, _, hk⟩ := fl_LSec ht
      obtain ⟨k0, e0⟩ := hk 0 (by omega)
      obtain ⟨k1, e1⟩ := hk 1 (by omega)
      obtain ⟨k2, e2⟩ := hk 2 (by omega)
      obtain ⟨k3, e3⟩ := hk 3 (by omega)
      refine ⟨⟨k0, k1, k2, k3⟩, fun j u hj => ?_⟩
      have hj4 : j < 4 := by have := (List.getElem?_eq_some_iff.1 hj).1; simpa [secL] using this
      have hcj := hcell j hj4
      rw [add_add] at hcj
      rw [hcj]
      match j, hj4 with
      | 0, _ => rw [e0]; simpa [secL] using hj
      | 1, _ => rw [e1]; simpa [secL] using hj
      | 2, _ => rw [e2]; simpa [secL] using hj
      | 3, _ => rw [e3]; simpa [secL] using hj
    obtain ⟨f, hfn⟩ : ∃ f : Nat → Sec, ∀ i, i < len → ∀ j u, (secL (f i))[j]? = some u → W.cell? ((⟨b, off, spot⟩ : Addr).add (i * 4 + j)) = some u :=
      ⟨fun i => if h : i < len then (hel i h).choose else zsec, fun i h => by simp only [dif_pos h]; exact (hel i h).choose_spec⟩
    refine ⟨some ⟨b, off, spot⟩, len, cap, (List.range len).map f, rfl, by simp, hl, by unfold maxLen at hm; omega, fun h0 => ?_⟩
    have c0 := hfn 0 h0 0 _ rfl
    have hs : spot = none := World.cell?_spot (a := (⟨b, off, spot⟩ : Addr)) (by simpa [Addr.add] using c0)
    subst hs
    have hadd : ∀ j, (⟨b, off, none⟩ : Addr).add j = ⟨b, off + j, none⟩ := fun j => by unfold Addr.add; split <;> simp_all
    refine ⟨b, off, rfl, ?_, fun i s his => ?_⟩
    · have := World.block_lt_of_cell? W _ c0
      rw [hadd] at this
      exact this
    · have hil : i < len := by have := (List.getElem?_eq_some_iff.1 his).1; simpa using this
      have e : s = f i := by simp [hil] at his; exact his.symm
      subst e
      have c0 := hfn i hil 0 _ rfl
      have c1 := hfn i hil 1 _ rfl
      have c2 := hfn i hil 2 _ rfl
      have c3 := hfn i hil 3 _ rfl
      rw [hadd] at c0 c1 c2 c3
      exact ⟨c0, c1, c2, c3⟩
end Go.Proofs.YtiagnnmnaakmoaaDoor
