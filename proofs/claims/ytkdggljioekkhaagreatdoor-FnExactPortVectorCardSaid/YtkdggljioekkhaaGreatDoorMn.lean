/-
  The walks of the small functions that the mean uses.
-/
import Derived.Test.YtkdggljioekkhaaGreatDoorMe
import Derived.Test.YtkdggljioekkhaaGreatDoorLg
import Derived.Test.YtkdggljioekkhaaGreatDoorPa
namespace Go.Proofs.YtkdggljioekkhaaGreatDoor
set_option linter.unusedSimpArgs false
set_option linter.unusedVariables false
open Go.RowKit
set_option maxHeartbeats 400000 in
theorem realOk_any (a : Fr) (w : World) :
    Calls Tryz.prog 80 #[frv a] w fun e w' => e = .returned (.bool (realOk a)) ∧ Below w.heap.size w w' := by
  cases ha : fvalid a
  · go_enter Tryz.func80, Tryz.ntmps80
    go_wp2_with (first | (go_at_call 78; (with_reducible refine (fvalid_f a _ (by assumption)).mono ?_); rintro e w1 ⟨rfl, hb⟩; obtain ⟨hc, hf⟩ := bf hb (w.heap.size + 1) side_; have hs := hb.size; (try simp only [World.size_alloc, World.size_setCell, World.size_drew, World.heap_drewN] at hs); have hl : w.heap.size ≤ w1.heap.size ∧ w.heap.size < w1.heap.size := ⟨by omega, by omega⟩; have hB : Below w.heap.size w w1 := bstep (by exact below_) hb side_; clear hs hb))
    go_ret
    exact ⟨by simp [realOk, ha], by exact below_⟩
  · go_enter Tryz.func80, Tryz.ntmps80
    go_wp2_with (first | (go_at_call 78; (with_reducible refine (fvalid_t a _ (by assumption)).mono ?_); rintro e w1 ⟨rfl, hb⟩; obtain ⟨hc, hf⟩ := bf hb (w.heap.size + 1) side_; have hs := hb.size; (try simp only [World.size_alloc, World.size_setCell, World.size_drew, World.heap_drewN] at hs); have hl : w.heap.size ≤ w1.heap.size ∧ w.heap.size < w1.heap.size := ⟨by omega, by omega⟩; have hB : Below w.heap.size w w1 := bstep (by exact below_) hb side_; clear hs hb))
    go_ret
    exact ⟨by simp [realOk, ha], by exact below_⟩
set_option maxHeartbeats 400000 in
theorem whole_any (n : Int) (w : World) :
    Calls Tryz.prog 84 #[.int .i64 n] w fun e w' => e = .returned (frv ⟨n, 0, 1⟩) ∧ Below w.heap.size w w' := by
  go_enter Tryz.func84, Tryz.ntmps84
  go_wp2
  exact bodyPost_ret (v := frv ⟨n, 0, 1⟩) (by simp [results, Tryz.results84, go_sem, *]) rfl ⟨rfl, by exact below_⟩
theorem all_succ {xs : List Fr} {k : Nat} {s : Fr} (h : xs[k]? = some s) : (xs.take (k + 1)).all realOk = ((xs.take k).all realOk && realOk s) := by
  rw [List.take_add_one, h]; simp
theorem all_fails {xs : List Fr} {k : Nat} {s : Fr} (h : xs[k]? = some s) (hs : realOk s = false) : xs.all realOk = false := by
  have hm : s ∈ xs := List.mem_of_getElem? h
  rw [Bool.eq_false_iff]
  intro hc
  rw [List.all_eq_true.1 hc s hm] at hs
  cases hs
end Go.Proofs.YtkdggljioekkhaaGreatDoor
