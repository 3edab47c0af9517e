/-
  What the nine laws of ports ask, from the plain laws. No program in sight.
-/
import Derived.Test.YtjbnkefeacineaaGreatDoorEg
import Derived.Test.YtjbnkefeacineaaGreatDoorIl
import Derived.Test.YtjbnkefeacineaaGreatDoorIm
namespace Go.Proofs.YtjbnkefeacineaaGreatDoor
set_option linter.unusedSimpArgs false
set_option linter.unusedVariables false
open Go.RowKit
section
variable {a b : List UInt8} {k : Int} {v : Jn}
theorem port_told {s r : Bool} {X Y S A : Jn} (hX : (portI a b k v s).getD Z6 = X ∧ (portI a b k v s).isSome = true) (hY : (portI a b k v (!s)).getD Z6 = Y ∧ (portI a b k v (!s)).isSome = true) (hS : (jaddI X Y).getD Z6 = S ∧ (jaddI X Y).isSome = true) (hA : (runI a v).getD Z6 = A ∧ (runI a v).isSome = r) : r = true ∧ A = S := by
  have h := port_law (getD_some hX) (getD_some hY) (getD_some hS)
  rw [h] at hA
  exact ⟨hA.2.symm, hA.1.symm⟩
theorem powers_told {A B M N T U V C D : Fr} {X Y : Jn} {p q r s t u z g : Bool} (hP : pw1 (powersI a b k v) = A ∧ pw2 (powersI a b k v) = B ∧ (powersI a b k v).isSome = true) (hx : (runI a v).getD Z6 = X ∧ (runI a v).isSome = p) (hy : (runI b v).getD Z6 = Y ∧ (runI b v).isSome = q)
    (hM : (jpowerI X).getD Z3 = M ∧ (jpowerI X).isSome = r) (hN : (jpowerI Y).getD Z3 = N ∧ (jpowerI Y).isSome = s) (hT : (addI M N).getD Z3 = T ∧ (addI M N).isSome = t) (hU : (addI A B).getD Z3 = U ∧ (addI A B).isSome = u) (hV : (addI U U).getD Z3 = V ∧ (addI U U).isSome = z)
    (hC : pw1 (powersI a b ((k + 2) % 4) v) = C ∧ pw2 (powersI a b ((k + 2) % 4) v) = D ∧ (powersI a b ((k + 2) % 4) v).isSome = g) :
    p = true ∧ q = true ∧ (r = true → s = true → t = true → u = true → z = true → V = T) ∧ g = true ∧ C = B ∧ D = A := by
  obtain ⟨x, y, h1, h2, h3, h4⟩ := powers_law (pw_some hP)
  rw [h1] at hx
  rw [h2] at hy
  rw [h4] at hC
  refine ⟨hx.2.symm, hy.2.symm, ?_, hC.2.2.symm, hC.1.symm, hC.2.1.symm⟩
  rintro rfl rfl rfl rfl rfl
  obtain rfl : x = X := hx.1
  obtain rfl : y = Y := hy.1
  exact h3 _ _ _ _ _ (getD_some hM) (getD_some hN) (getD_some hT) (getD_some hU) (getD_some hV)
theorem keeps_told {A B : Fr} (hP : pw1 (powersI a b k v) = A ∧ pw2 (powersI a b k v) = B ∧ (powersI a b k v).isSome = true) (hN : (jpowerI v).isSome = true) (hS : (addI A B).isSome = true) : keepsI a b k v = true := by
  cases hn : jpowerI v with
  | none => rw [hn] at hN; cases hN
  | some n =>
    cases hs : addI A B with
    | none => rw [hs] at hS; cases hS
    | some s =>
      have h := keeps_law (pw_some hP) hs hn
      unfold keepsI
      rw [pw_some hP, hn]
      simp only [hs]
      rw [cmpI_ok h.1 h.2.1]
      simpa using h.2.2
theorem kept_told (h : keepsI a b k v = true) : (powersI a b k v).isSome = true ∧ (jpowerI v).isSome = true := by
  unfold keepsI at h
  cases hp : powersI a b k v with
  | none => rw [hp] at h; simp at h
  | some p =>
    cases hn : jpowerI v with
    | none => rw [hp, hn] at h; simp at h
    | some n => exact ⟨rfl, rfl⟩
theorem seen_told {F : Fr} (h : (seenI a b v).getD Z3 = F ∧ (seenI a b v).isSome = true) : F.im = 0 ∧ 0 ≤ F.re ∧ F.re ≤ F.den ∧ (F == ⟨1, 0, 1⟩) = darkI a b v := seen_law (getD_some h)
theorem dark_told (h : darkI a b v = true) : ∃ fs, fringesI a b v = some fs ∧ fs.any (fun f => decide (f.re = 0)) = true := by
  unfold darkI at h
  cases hf : fringesI a b v with
  | none => rw [hf] at h; cases h
  | some fs =>
    rw [hf] at h
    refine ⟨fs, rfl, ?_⟩
    obtain ⟨f, h1, h2⟩ := List.any_eq_true.1 h
    refine List.any_eq_true.2 ⟨f, h1, ?_⟩
    have : f = ⟨0, 0, 1⟩ := by simpa using h2
    subst this
    rfl
theorem dark_back (h : darkI a b v = true) (hg : (fringesI b a v).isSome = true) : darkI b a v = true := by
  cases hf : fringesI b a v with
  | none => rw [hf] at hg; cases hg
  | some gs => exact dark_law h hf
/-- The four fringes, each the power of the first port. -/
theorem fringes_told {fs : List Fr} (h : fringesI a b v = some fs) : ∃ f0 f1 f2 f3, fs = [f0, f1, f2, f3] ∧ (∀ x y, addI f0 f2 = some x → addI f1 f3 = some y → x = y) ∧
    ∀ j, j < 4 → ∀ A B, pw1 (powersI a b (j : Nat) v) = A ∧ pw2 (powersI a b (j : Nat) v) = B ∧ (powersI a b (j : Nat) v).isSome = true → A = atF fs j := by
  obtain ⟨f0, f1, f2, f3, rfl, k0, k1, k2, k3⟩ := fringes_open h
  refine ⟨f0, f1, f2, f3, rfl, fun x y h1 h2 => fringes_law h h1 h2, fun j hj A B hP => ?_⟩
  have hp := pw_some hP
  match j, hj with
  | 0, _ => exact fringe_powers k0 hp
  | 1, _ => exact fringe_powers k1 hp
  | 2, _ => exact fringe_powers k2 hp
  | 3, _ => exact fringe_powers k3 hp
theorem bright_told {fs : List Fr} (h : fringesI a b v = some fs) : fs.length = 4 ∧ brI a b v ≤ 3 ∧ ∀ j, j < 4 → ∃ c : Int, cmpI (atF fs j) (atF fs (brI a b v)) = some c ∧ c ≤ 0 ∧ (c = 0 → brI a b v ≤ j) := by
  obtain ⟨hl, hr⟩ := fringes_real h
  obtain ⟨h1, h2⟩ := bright_law h
  have e : brI a b v = grt fs 4 := by unfold brI; rw [h]
  rw [e]
  refine ⟨hl, h1, fun j hj => ?_⟩
  obtain ⟨h3, h4⟩ := h2 j hj
  exact ⟨_, cmpI_ok (atF_real (fun f hf => (hr f hf).1) (by omega)) (atF_real (fun f hf => (hr f hf).1) (by omega)), h3, h4⟩
end
end Go.Proofs.YtjbnkefeacineaaGreatDoor
