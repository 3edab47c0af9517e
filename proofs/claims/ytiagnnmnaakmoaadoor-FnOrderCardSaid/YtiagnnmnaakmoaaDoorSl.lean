/-
  The walks of the helpers of the statements on lists of sections: handed over, compared, marked, held.
-/
import Derived.Test.YtiagnnmnaakmoaaDoorDi
import Derived.Deep.RegionHeld3
import Derived.Test.YtiagnnmnaakmoaaDoorRows
namespace Go.Proofs.YtiagnnmnaakmoaaDoor
set_option linter.unusedSimpArgs false
set_option linter.unusedVariables false
open Go.RowKit
theorem sz_any (A : Option Addr) (len cap : Nat) (n : Int) (w : World) (h : (len : Int) ≤ n) (hn : n ≤ 1048576) :
    Calls Tryd.prog 7 #[.slice A len cap, .int .i64 n] w fun e w' => e = .returned (.int .i64 (n - len)) ∧ Below w.heap.size w w' := by
  go_enter Tryd.func7, Tryd.ntmps7
  go_wp2
  all_goals go_ret
  all_goals exact ⟨by go_num, by exact below_⟩
theorem sz_far (A : Option Addr) (len cap : Nat) (w : World) (h : 1048576 < len) (h2 : len ≤ 9223372036854775807) :
    Calls Tryd.prog 7 #[.slice A len cap, .int .i64 1048576] w fun e w' => e = .returned (.int .i64 (-1)) ∧ Below w.heap.size w w' := by
  go_enter Tryd.func7, Tryd.ntmps7
  go_wp2
  all_goals go_ret
  all_goals exact ⟨by go_num, by exact below_⟩
set_option maxHeartbeats 400000 in
theorem toSec_any (s : Sec) (w : World) :
    Calls Tryd.prog 26 #[secv s] w fun e w' => e = .returned (secv s) ∧ Below w.heap.size w w' := by
  go_enter Tryd.func26, Tryd.ntmps26
  go_wp2
  exact bodyPost_ret (v := secv s) (by simp [results, Tryd.results26, go_sem, *]) rfl ⟨rfl, by exact below_⟩
set_option maxHeartbeats 400000 in
theorem eqSec_refl (s : Sec) (w : World) :
    Calls Tryd.prog 29 #[secv s, secv s] w fun e w' => e = .returned (.bool true) ∧ Below w.heap.size w w' := by
  go_enter Tryd.func29, Tryd.ntmps29
  go_wp2
  go_ret
  exact ⟨rfl, by exact below_⟩
set_option maxRecDepth 100000 in
set_option maxHeartbeats 1000000 in
theorem eqSecs_refl (A A' : Option Addr) (len cap cap' : Nat) (xs : List Sec) (w : World) (h : Secs A len cap xs w) (h' : Secs A' len cap' xs w) :
    Calls Tryd.prog 12 #[.slice A len cap, .slice A' len cap'] w fun e w' => e = .returned (.bool true) ∧ Below w.heap.size w w' := by
  have hl := h.2.1
  have hm := h.2.2.1
  go_enter Tryd.func12, Tryd.ntmps12
  go_wp2
  go_loopw [5] (fun i wr => ∃ k : Nat, k ≤ len ∧ i = .int .i64 k ∧ Below w.heap.size w wr) (fun i _ => len - (intOf i).toNat)
  case atStart => exact ⟨0, Nat.zero_le _, rfl, Below.refl _ _⟩
  case round =>
    obtain ⟨k, hk, rfl, hb⟩ := hrel
    have hz := hb.size
    by_cases hkl : k < len
    · obtain ⟨b1, o1, s, rfl, hlt1, hs1, hc1⟩ := h.at hb hkl
      obtain ⟨b2, o2, s2, rfl, hlt2, hs2, hc2⟩ := h'.at hb hkl
      obtain rfl : s = s2 := by rw [hs1] at hs2; exact Option.some.inj hs2
      obtain ⟨c0, c1, c2, c3⟩ := hc1
      obtain ⟨d0, d1, d2, d3⟩ := hc2
      have HS1 := Lib.hid hs1
      clear hs1 hs2
      go_wp2
      go_region_held3 (fun w' => w'.cell? ⟨b1, o1 + k * 4, none⟩ = some (.int .i64 s.p) ∧ w'.cell? ⟨b1, o1 + k * 4 + 1, none⟩ = some (.int .i64 s.q) ∧ w'.cell? ⟨b1, o1 + k * 4 + 2, none⟩ = some (.int .i64 s.ph) ∧ w'.cell? ⟨b1, o1 + k * 4 + 3, none⟩ = some (.int .i64 s.t) ∧ w'.cell? ⟨b2, o2 + k * 4, none⟩ = some (.int .i64 s.p) ∧ w'.cell? ⟨b2, o2 + k * 4 + 1, none⟩ = some (.int .i64 s.q) ∧ w'.cell? ⟨b2, o2 + k * 4 + 2, none⟩ = some (.int .i64 s.ph) ∧ w'.cell? ⟨b2, o2 + k * 4 + 3, none⟩ = some (.int .i64 s.t)) ((first | go_keep | (simp [go_sem, *]; done))) (first | (go_at_call 29; (with_reducible refine (eqSec_refl s _).mono ?_); rintro e w1 ⟨rfl, hb⟩; obtain ⟨hc, hf⟩ := bf hb (w.heap.size) side_; have hs := hb.size; (try simp only [World.size_alloc, World.size_setCell, World.size_drew, World.heap_drewN] at hs); have hl : w.heap.size ≤ w1.heap.size := (by omega); have hB : Below w.heap.size w w1 := bstep (by exact below_) hb side_; clear hs hb))
      go_wp2
      go_roundw
      case rel => exact ⟨k + 1, by omega, by go_num, by exact below_⟩
      case measure => simp [intOf]; omega
    · go_wp2
      go_ret
      exact ⟨rfl, by exact below_⟩
end Go.Proofs.YtiagnnmnaakmoaaDoor
