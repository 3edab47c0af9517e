/-
  The walks of the functions that mark lists and look for their marks.
-/
import Derived.Test.YtalcjmefmffcnaaDoorSb
import Derived.Test.YtalcjmefmffcnaaDoorPc
import Derived.IntWalk
namespace Go.Proofs.YtalcjmefmffcnaaDoor
set_option linter.unusedSimpArgs false
set_option linter.unusedVariables false
open Go.RowKit
attribute [local go_sem ↓] Go.wp_at_zero Go.wp_at_succ
def markF (n : Nat) : List Fr := (List.range n).map fun i : Nat => ⟨3 * (i : Int) + 1, 3 * (i : Int) + 2, 3 * (i : Int) + 3⟩
theorem markF_length (n : Nat) : (markF n).length = n := by simp [markF]
theorem markF_get (n i : Nat) (h : i < n) : (markF n)[i]? = some ⟨3 * (i : Int) + 1, 3 * (i : Int) + 2, 3 * (i : Int) + 3⟩ := by simp [markF, h]
theorem markF_step (xs : List Fr) (i : Nat) (h : i < xs.length) : (markF i ++ xs.drop i).set i ⟨3 * (i : Int) + 1, 3 * (i : Int) + 2, 3 * (i : Int) + 3⟩ = markF (i + 1) ++ xs.drop (i + 1) := by
  have hm := markF_length i
  rw [List.set_append, if_neg (by omega), hm, Nat.sub_self, List.drop_eq_getElem_cons h, List.set_cons_zero]
  simp [markF, List.range_succ]
set_option maxRecDepth 100000 in
set_option maxHeartbeats 1000000 in
theorem markF_any (base : Nat) (v : Value) (xs : List Fr) (w : World) (h : OwF base v xs w) (hbig : xs.length ≤ 1048576) :
    Calls Tryd.prog 38 #[v, .int .i64 1] w fun e w' => e = .returned (.int .i64 (3 * (xs.length : Int) + 1)) ∧ OwF base v (markF xs.length) w' ∧ w.grownBy w' v.ownBlock := by
  obtain ⟨A, cap, rfl, hS⟩ := h.frs
  obtain ⟨len, hlen⟩ : ∃ len, len = xs.length := ⟨_, rfl⟩
  rw [← hlen] at hbig h hS ⊢
  have hl := hS.2.1
  have hm := hS.2.2.1
  have HL := Lib.hid hlen
  clear hlen hS
  go_enter Tryd.func38, Tryd.ntmps38
  go_wp2
  go_loopw [1, 5] (fun m i wr => ∃ k : Nat, k ≤ len ∧ i = .int .i64 k ∧ m = .int .i64 (3 * (k : Int) + 1) ∧ OwF base (.slice A len cap) (markF k ++ xs.drop k) wr ∧ w.grownBy wr (Value.ownBlock (.slice A len cap))) (fun _ i _ => len - (intOf i).toNat)
  case atStart => exact ⟨0, Nat.zero_le _, rfl, rfl, by simpa [markF] using h, ⟨rfl, rfl, rfl, Nat.le_refl _, fun _ _ _ => rfl⟩⟩
  case round =>
    clear h
    obtain ⟨k, hk, rfl, rfl, hO, hg⟩ := hrel
    by_cases hkl : k < len
    · have hxk : (markF k ++ xs.drop k)[k]? = some (xs[k]'(by have := HL.out; omega)) := by
        rw [List.getElem?_append_right (by rw [markF_length]; omega), markF_length, Nat.sub_self, List.getElem?_drop, Nat.add_zero, List.getElem?_eq_getElem]
      obtain ⟨g, cp, hv, -, hlt, hat, hfz⟩ := hO.at k _ hxk
      have hv2 : A = some ⟨g, 0, none⟩ := by injection hv
      subst hv2
      clear hxk hv
      obtain ⟨z0, z1, z2⟩ := hat
      obtain ⟨f0, f1, f2⟩ := hfz
      go_wp2
      go_roundw
      case rel =>
        refine ⟨k + 1, by omega, by go_num, by go_num, ?_, grownBy_transF (grownBy_transF (grownBy_transF (hg) (grownBy_setCellF _ _ _ _)) (grownBy_setCellF _ _ _ _)) (grownBy_setCellF _ _ _ _)⟩
        have e := hO.put (g := g) rfl k (by rw [List.length_append, List.length_drop, markF_length]; have := HL.out; omega) ⟨3 * k + 1, 3 * k + 1 + 1, 3 * k + 1 + 1 + 1⟩
        rw [show (⟨3 * k + 1, 3 * k + 1 + 1, 3 * k + 1 + 1 + 1⟩ : Fr) = ⟨3 * (k : Int) + 1, 3 * (k : Int) + 2, 3 * (k : Int) + 3⟩ by simp only [Fr.mk.injEq]; refine ⟨?_, ?_, ?_⟩ <;> first | trivial | omega, markF_step xs k (by have := HL.out; omega)] at e
        exact e
      case measure => first | (simp [intOf]; done) | (simp [intOf]; omega)
    · go_wp2
      go_ret
      have e : k = len := by omega
      subst e
      have := HL.out
      rw [List.drop_of_length_le (by omega), List.append_nil] at hO
      exact ⟨rfl, hO, hg⟩
set_option maxRecDepth 100000 in
set_option maxHeartbeats 1000000 in
theorem heldF_any (A : Option Addr) (len cap : Nat) (w : World) (h : Frs A len cap (markF len) w) (hbig : len ≤ 1048576) :
    Calls Tryd.prog 39 #[.slice A len cap, .int .i64 1] w fun e w' => e = .returned (.int .i64 (3 * (len : Int) + 1)) ∧ Below w.heap.size w w' := by
  have hl := h.2.1
  have hm := h.2.2.1
  go_enter Tryd.func39, Tryd.ntmps39
  go_wp2
  go_loopw [1, 5] (fun m i wr => ∃ k : Nat, k ≤ len ∧ i = .int .i64 k ∧ m = .int .i64 (3 * (k : Int) + 1) ∧ Below w.heap.size w wr) (fun _ i _ => len - (intOf i).toNat)
  case atStart => exact ⟨0, Nat.zero_le _, rfl, rfl, Below.refl _ _⟩
  case round =>
    obtain ⟨k, hk, rfl, rfl, hb⟩ := hrel
    by_cases hkl : k < len
    · obtain ⟨b1, o1, s, rfl, hlt1, hs1, hc1⟩ := h.at hb hkl
      rw [markF_get len k hkl] at hs1
      obtain rfl := Option.some.inj hs1
      obtain ⟨c0, c1, c2⟩ := hc1
      dsimp only at c0 c1 c2
      rw [show 3 * (k : Int) + 2 = 3 * (k : Int) + 1 + 1 by omega] at c1
      rw [show 3 * (k : Int) + 3 = 3 * (k : Int) + 1 + 1 + 1 by omega] at c2
      clear hs1
      go_wp2
      go_roundw
      case rel => exact ⟨k + 1, by omega, by go_num, by go_num, by exact below_⟩
      case measure => first | (simp [intOf]; done) | (simp [intOf]; omega)
    · go_wp2
      go_ret
      have e : k = len := by omega
      subst e
      exact ⟨rfl, hb⟩
def markA (n : Nat) : List Sta := (List.range n).map fun i : Nat => ⟨2 * (i : Int) + 1, 2 * (i : Int) + 2⟩
theorem markA_length (n : Nat) : (markA n).length = n := by simp [markA]
theorem markA_step (xs : List Sta) (i : Nat) (h : i < xs.length) : (markA i ++ xs.drop i).set i ⟨2 * (i : Int) + 1, 2 * (i : Int) + 2⟩ = markA (i + 1) ++ xs.drop (i + 1) := by
  have hm := markA_length i
  rw [List.set_append, if_neg (by omega), hm, Nat.sub_self, List.drop_eq_getElem_cons h, List.set_cons_zero]
  simp [markA, List.range_succ]
set_option maxRecDepth 100000 in
set_option maxHeartbeats 1000000 in
theorem markA_any (base : Nat) (v : Value) (xs : List Sta) (w : World) (h : OwA base v xs w) (hbig : xs.length ≤ 1048576) :
    Calls Tryd.prog 42 #[v, .int .i64 1] w fun e w' => e = .returned (.int .i64 (2 * (xs.length : Int) + 1)) ∧ OwA base v (markA xs.length) w' ∧ w.grownBy w' v.ownBlock := by
  obtain ⟨A, cap, rfl, hS⟩ := h.frs
  obtain ⟨len, hlen⟩ : ∃ len, len = xs.length := ⟨_, rfl⟩
  rw [← hlen] at hbig h hS ⊢
  have hl := hS.2.1
  have hm := hS.2.2.1
  have HL := Lib.hid hlen
  clear hlen hS
  go_enter Tryd.func42, Tryd.ntmps42
  go_wp2
  go_loopw [1, 5] (fun m i wr => ∃ k : Nat, k ≤ len ∧ i = .int .i64 k ∧ m = .int .i64 (2 * (k : Int) + 1) ∧ OwA base (.slice A len cap) (markA k ++ xs.drop k) wr ∧ w.grownBy wr (Value.ownBlock (.slice A len cap))) (fun _ i _ => len - (intOf i).toNat)
  case atStart => exact ⟨0, Nat.zero_le _, rfl, rfl, by simpa [markA] using h, ⟨rfl, rfl, rfl, Nat.le_refl _, fun _ _ _ => rfl⟩⟩
  case round =>
    clear h
    obtain ⟨k, hk, rfl, rfl, hO, hg⟩ := hrel
    by_cases hkl : k < len
    · have hxk : (markA k ++ xs.drop k)[k]? = some (xs[k]'(by have := HL.out; omega)) := by
        rw [List.getElem?_append_right (by rw [markA_length]; omega), markA_length, Nat.sub_self, List.getElem?_drop, Nat.add_zero, List.getElem?_eq_getElem]
      obtain ⟨g, cp, hv, -, hlt, hat, hfz⟩ := hO.at k _ hxk
      have hv2 : A = some ⟨g, 0, none⟩ := by injection hv
      subst hv2
      clear hxk hv
      obtain ⟨z0, z1⟩ := hat
      obtain ⟨f0, f1⟩ := hfz
      go_wp2
      go_roundw
      case rel =>
        refine ⟨k + 1, by omega, by go_num, by go_num, ?_, grownBy_transF (grownBy_transF (hg) (grownBy_setCellF _ _ _ _)) (grownBy_setCellF _ _ _ _)⟩
        have e := hO.put (g := g) rfl k (by rw [List.length_append, List.length_drop, markA_length]; have := HL.out; omega) ⟨2 * k + 1, 2 * k + 1 + 1⟩
        rw [show (⟨2 * k + 1, 2 * k + 1 + 1⟩ : Sta) = ⟨2 * (k : Int) + 1, 2 * (k : Int) + 2⟩ by simp only [Sta.mk.injEq]; refine ⟨?_, ?_⟩ <;> first | trivial | omega, markA_step xs k (by have := HL.out; omega)] at e
        exact e
      case measure => first | (simp [intOf]; done) | (simp [intOf]; omega)
    · go_wp2
      go_ret
      have e : k = len := by omega
      subst e
      have := HL.out
      rw [List.drop_of_length_le (by omega), List.append_nil] at hO
      exact ⟨rfl, hO, hg⟩
end Go.Proofs.YtalcjmefmffcnaaDoor
