/-
  The walk of the comparison of two lists of fractions that are alike (port seats).
-/
import Derived.Test.YtjbnkefeacineaaGreatDoorJg
import Derived.Test.YtjbnkefeacineaaGreatDoorEq
import Derived.BigQuiet
import Derived.Deep.CutRange
namespace Go.Proofs.YtjbnkefeacineaaGreatDoor
set_option linter.unusedSimpArgs false
set_option linter.unusedVariables false
open Go.RowKit
attribute [local go_sem ↓] Go.wp_at_zero Go.wp_at_succ
theorem eqF_runt (a : Fr) (w : World) : (Op.equalIn 10000 24 (frv a) (frv a)).run Tryz.prog w = .ok true w := eqF_run 9998 a w
section
attribute [local go_sem] eqF_runt
set_option maxRecDepth 100000 in
set_option maxHeartbeats 8000000 in
theorem sameFrs_refl (A A' : Option Addr) (len cap cap' : Nat) (xs : List Fr) (w : World) (h : Frs A len cap xs w) (h' : Frs A' len cap' xs w) :
    Calls Tryz.prog 42 #[.slice A len cap, .slice A' len cap'] w fun e w' => e = .returned (.bool true) ∧ Below w.heap.size w w' := by
  have hl := h.2.1
  have hm := h.2.2.1
  go_enter Tryz.func42, Tryz.ntmps42
  go_wp2
  go_loopw [5] (fun i wr => ∃ k : Nat, k ≤ len ∧ i = .int .i64 k ∧ Below w.heap.size w wr) (fun i _ => len - (intOf i).toNat)
  case atStart => exact ⟨0, Nat.zero_le _, rfl, Below.refl _ _⟩
  case round =>
    obtain ⟨k, hk, rfl, hb⟩ := hrel
    have hz := hb.size
    by_cases hkl : k < len
    · obtain ⟨b1, o1, s, rfl, hlt1, hs1, hc1⟩ := h.at hb hkl
      obtain ⟨b2, o2, s2, rfl, hlt2, hs2, hc2⟩ := h'.at hb hkl
      obtain rfl : s = s2 := by rw [hs1] at hs2; exact Option.some.inj hs2
      obtain ⟨c0, c1, c2⟩ := hc1
      obtain ⟨d0, d1, d2⟩ := hc2
      clear hs1 hs2
      have hki : (k : Int) < (len : Int) := by omega
      have hk0 : (0 : Int) ≤ (k : Int) := by omega
      go_upto_region 6 with fail
      go_quiet (fail)
      go_wp2
      go_roundw
      case rel => exact ⟨k + 1, by omega, by go_num, below_drewN hb _⟩
      case measure => first | (simp [intOf]; done) | (simp [intOf]; omega)
    · go_wp2
      go_ret
      exact ⟨rfl, by exact below_⟩
end
end Go.Proofs.YtjbnkefeacineaaGreatDoor
