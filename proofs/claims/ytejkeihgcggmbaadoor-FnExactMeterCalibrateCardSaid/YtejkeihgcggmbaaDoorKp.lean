/-
  An argument that is a list of Stokes numbers, opened.
-/
import Derived.Test.YtejkeihgcggmbaaDoorLo
import Derived.Test.YtejkeihgcggmbaaDoorKl
namespace Go.Proofs.YtejkeihgcggmbaaDoor
set_option linter.unusedSimpArgs false
set_option linter.unusedVariables false
open Go.ChangeShapes Go.WideShapes Go.ChangeAt Go.RowKit Go.WideElems Go.Deep
theorem co_LA4 : Tryd.prog.cellsOf 46 = 12 := by kernel_rfl
theorem fl_LA4 : Flat Tryd.prog 46 12 3 := flat_array Tryd.underlying46 fl_LFrac co_LFrac co_LA4
theorem co_LStk : Tryd.prog.cellsOf 48 = 12 := by kernel_rfl
theorem fl_LStk : Flat Tryd.prog 48 12 4 := flat_struct1 Tryd.underlying48 fl_LA4 co_LA4 rfl co_LStk
def stL (m : Mt) : List Value := [.int .i64 m.a.re, .int .i64 m.a.im, .int .i64 m.a.den, .int .i64 m.b.re, .int .i64 m.b.im, .int .i64 m.b.den, .int .i64 m.c.re, .int .i64 m.c.im, .int .i64 m.c.den, .int .i64 m.d.re, .int .i64 m.d.im, .int .i64 m.d.den]
def zst0 : Mt := ⟨⟨0, 0, 0⟩, ⟨0, 0, 0⟩, ⟨0, 0, 0⟩, ⟨0, 0, 0⟩⟩
set_option maxRecDepth 100000 in
theorem open_LStks {H : Type} {enc : TypeId × Value → H} {W : World} {b0 base : Nat} {spare : Nat → Bool} {held : Bool} {v : Value} {d : DataW H} {p : List MemPlace}
    (hv : Value.okWide Tryd.prog W .any b0 22 v) (h : DataW.Trod enc Tryd.prog W base spare held 22 v d p) : ∃ A len cap xs, v = .slice A len cap ∧ Sts A len cap xs W := by
  obtain ⟨a0, len, cap, rfl⟩ := okWide_slice Tryd.underlying22 hv
  obtain ⟨fuel, hf⟩ := h
  rcases open_slice Tryd.underlying22 hf with ⟨hcs, _⟩ | ⟨a, len', cap', m, n, D, Pl, hcs, _, hl, hm, hmm, _, hi⟩
  · simp [Value.cells] at hcs
    obtain ⟨rfl, rfl, rfl⟩ := hcs
    exact ⟨none, 0, 0, [], rfl, rfl, Nat.le_refl _, by omega, fun h0 => by omega⟩
  · simp [Value.cells] at hcs
    obtain ⟨rfl, rfl, rfl⟩ := hcs
    have hlm : len ≤ m := by rw [hmm]; split <;> omega
    obtain ⟨b, off, spot⟩ := a
    have hel : ∀ i, i < len → ∃ s : Mt, ∀ j u, (stL s)[j]? = some u → W.cell? ((⟨b, off, spot⟩ : Addr).add (i * 12 + j)) = some u := by
      intro i hil
      obtain ⟨cs', hc, ht⟩ := hi i (by omega)
      rw [co_LStk] at hc
      obtain ⟨_, hlen, hcell⟩ := World.cells?_some hc
      obtain ⟨_, _, hk⟩ := fl_LStk ht
      obtain ⟨k0, e0⟩ := hk 0 (by omega)
      obtain ⟨k1, e1⟩ := hk 1 (by omega)
      obtain ⟨k2, e2⟩ := hk 2 (by omega)
      obtain ⟨k3, e3⟩ := hk 3 (by omega)
      obtain ⟨k4, e4⟩ := hk 4 (by omega)
      obtain ⟨k5, e5⟩ := hk 5 (by omega)
      obtain ⟨k6, e6⟩ := hk 6 (by omega)
      obtain ⟨k7, e7⟩ := hk 7 (by omega)
      obtain ⟨k8, e8⟩ := hk 8 (by omega)
      obtain ⟨k9, e9⟩ := hk 9 (by omega)
      obtain ⟨k10, e10⟩ := hk 10 (by omega)
      obtain ⟨k11, e11⟩ := hk 11 (by omega)
      refine ⟨⟨⟨k0, k1, k2⟩, ⟨k3, k4, k5⟩, ⟨k6, k7, k8⟩, ⟨k9, k10, k11⟩⟩, fun j u hj => ?_⟩
      have hj4 : j < 12 := by have := (List.getElem?_eq_some_iff.1 hj).1; simpa [stL] using this
      have hcj := hcell j hj4
      rw [add_add] at hcj
      rw [hcj]
      match j, hj4 with
      | 0, _ => rw [e0]; simpa [stL] using hj
      | 1, _ => rw [e1]; simpa [stL] using hj
      | 2, _ => rw [e2]; simpa [stL] using hj
      | 3, _ => rw [e3]; simpa [stL] using hj
      | 4, _ => rw [e4]; simpa [stL] using hj
      | 5, _ => rw [e5]; simpa [stL] using hj
      | 6, _ => rw [e6]; simpa [stL] using hj
      | 7, _ => rw [e7]; simpa [stL] using hj
      | 8, _ => rw [e8]; simpa [stL] using hj
      | 9, _ => rw [e9]; simpa [stL] using hj
      | 10, _ => rw [e10]; simpa [stL] using hj
      | 11, _ => rw [e11]; simpa [stL] using hj
    obtain ⟨f, hfn⟩ : ∃ f : Nat → Mt, ∀ i, i < len → ∀ j u, (stL (f i))[j]? = some u → W.cell? ((⟨b, off, spot⟩ : Addr).add (i * 12 + j)) = some u :=
      ⟨fun i => if h : i < len then (hel i h).choose else zst0, fun i h => by simp only [dif_pos h]; exact (hel i h).choose_spec⟩
    refine ⟨some ⟨b, off, spot⟩, len, cap, (List.range len).map f, rfl, by simp, hl, by unfold maxLen at hm; omega, fun h0 => ?_⟩
    have c0 := hfn 0 h0 0 _ rfl
    have hs : spot = none := World.cell?_spot (a := (⟨b, off, spot⟩ : Addr)) (by simpa [Addr.add] using c0)
    subst hs
    have hadd : ∀ j, (⟨b, off, none⟩ : Addr).add j = ⟨b, off + j, none⟩ := fun j => by unfold Addr.add; split <;> simp_all
    refine ⟨b, off, rfl, ?_, fun i s his => ?_⟩
    · have := World.block_lt_of_cell? W _ c0
      rw [hadd] at this
      exact this
    · have hil : i < len := by have := (List.getElem?_eq_some_iff.1 his).1; simpa using this
      have e : s = f i := by simp [hil] at his; exact his.symm
      subst e
      have c0 := hfn i hil 0 _ rfl
      have c1 := hfn i hil 1 _ rfl
      have c2 := hfn i hil 2 _ rfl
      have c3 := hfn i hil 3 _ rfl
      have c4 := hfn i hil 4 _ rfl
      have c5 := hfn i hil 5 _ rfl
      have c6 := hfn i hil 6 _ rfl
      have c7 := hfn i hil 7 _ rfl
      have c8 := hfn i hil 8 _ rfl
      have c9 := hfn i hil 9 _ rfl
      have c10 := hfn i hil 10 _ rfl
      have c11 := hfn i hil 11 _ rfl
      rw [hadd] at c0 c1 c2 c3 c4 c5 c6 c7 c8 c9 c10 c11
      exact ⟨⟨c0, c1, c2⟩, ⟨c3, c4, c5⟩, ⟨c6, c7, c8⟩, ⟨c9, c10, c11⟩⟩
end Go.Proofs.YtejkeihgcggmbaaDoor
