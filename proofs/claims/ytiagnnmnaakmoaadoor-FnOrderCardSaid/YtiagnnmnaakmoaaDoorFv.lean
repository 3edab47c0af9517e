/-
  The walks of what tells a fibre from another list, program and reference.
-/
import Derived.Test.YtiagnnmnaakmoaaDoorSk
namespace Go.Proofs.YtiagnnmnaakmoaaDoor
set_option linter.unusedSimpArgs false
set_option linter.unusedVariables false
open Go.RowKit
set_option maxHeartbeats 1000000 in
theorem secOk_any (s : Sec) (w : World) :
    Calls Tryd.prog 65 #[secv s] w fun e w' => e = .returned (.bool (secOk s)) ∧ Below w.heap.size w w' := by
  cases h1 : dirOk s.p s.q
  · rw [show secOk s = false by simp [secOk, h1]]
    go_enter Tryd.func65, Tryd.ntmps65
    go_wp2_with (first | (go_at_call 81; (with_reducible refine (direction_f s.p s.q _ (by assumption)).mono ?_); rintro e w1 ⟨rfl, hb⟩; obtain ⟨hc, hf⟩ := bf hb (w.heap.size + 1) side_; have hs := hb.size; (try simp only [World.size_alloc, World.size_setCell, World.size_drew, World.heap_drewN] at hs); have hl : w.heap.size ≤ w1.heap.size ∧ w.heap.size < w1.heap.size := ⟨by omega, by omega⟩; have hB : Below w.heap.size w w1 := bstep (by exact below_) hb side_; clear hs hb))
    go_ret
    exact ⟨rfl, by exact below_⟩
  cases h2 : inB s.ph 0 3
  · rw [show secOk s = false by simp [secOk, h1, h2]]
    go_enter Tryd.func65, Tryd.ntmps65
    go_wp2_with (first | (go_at_call 81; (with_reducible refine (direction_t s.p s.q _ (by assumption)).mono ?_); rintro e w1 ⟨rfl, hb⟩; obtain ⟨hc, hf⟩ := bf hb (w.heap.size + 1) side_; have hs := hb.size; (try simp only [World.size_alloc, World.size_setCell, World.size_drew, World.heap_drewN] at hs); have hl : w.heap.size ≤ w1.heap.size ∧ w.heap.size < w1.heap.size := ⟨by omega, by omega⟩; have hB : Below w.heap.size w w1 := bstep (by exact below_) hb side_; clear hs hb) | (go_at_call 67; refine (within_f _ _ _ _ (by assumption)).mono ?_; rintro e w1 ⟨rfl, rfl⟩))
    go_ret
    exact ⟨rfl, by exact below_⟩
  cases h3 : inB s.t 0 50
  · rw [show secOk s = false by simp [secOk, h1, h2, h3]]
    go_enter Tryd.func65, Tryd.ntmps65
    go_wp2_with (first | (go_at_call 81; (with_reducible refine (direction_t s.p s.q _ (by assumption)).mono ?_); rintro e w1 ⟨rfl, hb⟩; obtain ⟨hc, hf⟩ := bf hb (w.heap.size + 1) side_; have hs := hb.size; (try simp only [World.size_alloc, World.size_setCell, World.size_drew, World.heap_drewN] at hs); have hl : w.heap.size ≤ w1.heap.size ∧ w.heap.size < w1.heap.size := ⟨by omega, by omega⟩; have hB : Below w.heap.size w w1 := bstep (by exact below_) hb side_; clear hs hb) | (go_at_call 67; refine (within_t _ _ _ _ (by assumption)).mono ?_; rintro e w1 ⟨rfl, rfl⟩) | (go_at_call 67; refine (within_f _ _ _ _ (by assumption)).mono ?_; rintro e w1 ⟨rfl, rfl⟩))
    go_ret
    exact ⟨rfl, by exact below_⟩
  · rw [show secOk s = true by simp [secOk, h1, h2, h3]]
    go_enter Tryd.func65, Tryd.ntmps65
    go_wp2_with (first | (go_at_call 81; (with_reducible refine (direction_t s.p s.q _ (by assumption)).mono ?_); rintro e w1 ⟨rfl, hb⟩; obtain ⟨hc, hf⟩ := bf hb (w.heap.size + 1) side_; have hs := hb.size; (try simp only [World.size_alloc, World.size_setCell, World.size_drew, World.heap_drewN] at hs); have hl : w.heap.size ≤ w1.heap.size ∧ w.heap.size < w1.heap.size := ⟨by omega, by omega⟩; have hB : Below w.heap.size w w1 := bstep (by exact below_) hb side_; clear hs hb) | (go_at_call 67; refine (within_t _ _ _ _ (by assumption)).mono ?_; rintro e w1 ⟨rfl, rfl⟩))
    go_ret
    exact ⟨rfl, by exact below_⟩
theorem secOk_t (s : Sec) (w : World) (h : secOk s = true) : Calls Tryd.prog 65 #[secv s] w fun e w' => e = .returned (.bool true) ∧ Below w.heap.size w w' := by
  rw [← h]; exact secOk_any s w
theorem secOk_f (s : Sec) (w : World) (h : secOk s = false) : Calls Tryd.prog 65 #[secv s] w fun e w' => e = .returned (.bool false) ∧ Below w.heap.size w w' := by
  rw [← h]; exact secOk_any s w
set_option maxRecDepth 100000 in
set_option maxHeartbeats 1000000 in
theorem fibValid_any (A : Option Addr) (len cap : Nat) (xs : List Sec) (w : World) (h : Secs A len cap xs w) :
    Calls Tryd.prog 39 #[.slice A len cap] w fun e w' => e = .returned (.bool (fibOk xs)) ∧ Below w.heap.size w w' := by
  have hl := h.2.1
  have hm := h.2.2.1
  have hxl := Lib.hid h.1
  go_enter Tryd.func39, Tryd.ntmps39
  go_wp2
  go_loopw [4, 7] (fun _ i wr => ∃ k : Nat, k ≤ len ∧ i = .int .i64 k ∧ Hid ((xs.take k).all secOk = true) ∧ Below w.heap.size w wr) (fun _ i _ => len - (intOf i).toNat)
  case atStart => exact ⟨0, Nat.zero_le _, rfl, rfl, Below.refl _ _⟩
  case round =>
    obtain ⟨k, hk, rfl, hall, hb⟩ := hrel
    have hz := hb.size
    by_cases hkl : k < len
    · obtain ⟨b1, o1, s, rfl, hlt1, hs1, hc1⟩ := h.at hb hkl
      obtain ⟨c0, c1, c2, c3⟩ := hc1
      have HS1 := Lib.hid hs1
      clear hs1
      cases hok : secOk s
      · have HF := Lib.hid (all_not HS1.out hok)
        go_wp2_with (first | (go_at_call 65; (with_reducible refine (secOk_f s _ (by assumption)).mono ?_); rintro e w1 ⟨rfl, hb⟩; obtain ⟨hc, hf⟩ := bf hb (w.heap.size) side_; have hs := hb.size; (try simp only [World.size_alloc, World.size_setCell, World.size_drew, World.heap_drewN] at hs); have hl : w.heap.size ≤ w1.heap.size := (by omega); have hB : Below w.heap.size w w1 := bstep (by exact below_) hb side_; clear hs hb))
        go_ret
        exact ⟨by rw [HF.out]; rfl, by exact below_⟩
      · go_wp2_with (first | (go_at_call 65; (with_reducible refine (secOk_t s _ (by assumption)).mono ?_); rintro e w1 ⟨rfl, hb⟩; obtain ⟨hc, hf⟩ := bf hb (w.heap.size) side_; have hs := hb.size; (try simp only [World.size_alloc, World.size_setCell, World.size_drew, World.heap_drewN] at hs); have hl : w.heap.size ≤ w1.heap.size := (by omega); have hB : Below w.heap.size w w1 := bstep (by exact below_) hb side_; clear hs hb))
        go_roundw
        case rel => exact ⟨k + 1, by omega, by go_num, by rw [Hid, all_take_succ HS1.out, hall.out, hok]; rfl, by exact below_⟩
        case measure => simp [intOf]; omega
    · go_wp2
      go_ret
      have e : k = len := by omega
      subst e
      have e2 := hall.out
      rw [List.take_of_length_le (by rw [hxl.out]; omega)] at e2
      have e3 : fibOk xs = decide ((k : Int) ≤ 8) := by simp [fibOk, e2, hxl.out]; omega
      rw [e3]
      exact ⟨rfl, hb⟩
set_option maxRecDepth 100000 in
set_option maxHeartbeats 1000000 in
theorem sfibValid_any (A : Option Addr) (len cap : Nat) (xs : List Sec) (w : World) (h : Secs A len cap xs w) :
    Calls Tryd.prog 56 #[.slice A len cap] w fun e w' => e = .returned (.bool (fibOk xs)) ∧ Below w.heap.size w w' := by
  have hl := h.2.1
  have hm := h.2.2.1
  have hxl := Lib.hid h.1
  go_enter Tryd.func56, Tryd.ntmps56
  go_wp2
  go_loopw [3, 4, 5, 6] (fun i _ _ _ wr => ∃ k : Nat, k ≤ len ∧ i = .int .i64 k ∧ Hid ((xs.take k).all secOk = true) ∧ Below w.heap.size w wr) (fun i _ _ _ _ => len - (intOf i).toNat)
  case atStart => exact ⟨0, Nat.zero_le _, rfl, rfl, Below.refl _ _⟩
  case round =>
    obtain ⟨k, hk, rfl, hall, hb⟩ := hrel
    have hz := hb.size
    by_cases hkl : k < len
    · obtain ⟨b1, o1, s, rfl, hlt1, hs1, hc1⟩ := h.at hb hkl
      obtain ⟨c0, c1, c2, c3⟩ := hc1
      have HS1 := Lib.hid hs1
      clear hs1
      cases h1 : dirOk s.p s.q
      · have HF := Lib.hid (all_not HS1.out (show secOk s = false by simp [secOk, h1]))
        go_wp2
        go_region_held3 (fun w' => w'.cell? ⟨b1, o1 + k * 4, none⟩ = some (.int .i64 s.p) ∧ w'.cell? ⟨b1, o1 + k * 4 + 1, none⟩ = some (.int .i64 s.q) ∧ w'.cell? ⟨b1, o1 + k * 4 + 2, none⟩ = some (.int .i64 s.ph) ∧ w'.cell? ⟨b1, o1 + k * 4 + 3, none⟩ = some (.int .i64 s.t)) ((first | go_keep | (simp [go_sem, *]; done))) (first | (go_at_call 51; (with_reducible refine (sdirection_f s.p s.q _ (by assumption)).mono ?_); rintro e w1 ⟨rfl, hb⟩; obtain ⟨hc, hf⟩ := bf hb (w.heap.size) side_; have hs := hb.size; (try simp only [World.size_alloc, World.size_setCell, World.size_drew, World.heap_drewN] at hs); have hl : w.heap.size ≤ w1.heap.size := (by omega); obtain ⟨B, hBe, hBl, hc2, hf2⟩ := bfA hb; (try simp only [World.size_alloc, World.size_setCell, World.size_drew, World.heap_drewN] at hBe); have hB : Below w.heap.size w w1 := bstep (by exact below_) hb side_; clear hs hb))
        all_goals (try go_wp2)
        all_goals go_ret
        all_goals exact ⟨by rw [HF.out]; rfl, by exact below_⟩
      cases h2 : inB s.ph 0 3
      · have HF := Lib.hid (all_not HS1.out (show secOk s = false by simp [secOk, h1, h2]))
        go_wp2
        go_region_held3 (fun w' => w'.cell? ⟨b1, o1 + k * 4, none⟩ = some (.int .i64 s.p) ∧ w'.cell? ⟨b1, o1 + k * 4 + 1, none⟩ = some (.int .i64 s.q) ∧ w'.cell? ⟨b1, o1 + k * 4 + 2, none⟩ = some (.int .i64 s.ph) ∧ w'.cell? ⟨b1, o1 + k * 4 + 3, none⟩ = some (.int .i64 s.t)) ((first | go_keep | (simp [go_sem, *]; done))) (first | (go_at_call 51; (with_reducible refine (sdirection_t s.p s.q _ (by assumption)).mono ?_); rintro e w1 ⟨rfl, hb⟩; obtain ⟨hc, hf⟩ := bf hb (w.heap.size) side_; have hs := hb.size; (try simp only [World.size_alloc, World.size_setCell, World.size_drew, World.heap_drewN] at hs); have hl : w.heap.size ≤ w1.heap.size := (by omega); obtain ⟨B, hBe, hBl, hc2, hf2⟩ := bfA hb; (try simp only [World.size_alloc, World.size_setCell, World.size_drew, World.heap_drewN] at hBe); have hB : Below w.heap.size w w1 := bstep (by exact below_) hb side_; clear hs hb))
        all_goals go_wp2_with ((go_at_call 73; refine (l6in_f _ _ _ _ (by assumption)).mono ?_; rintro e w1 ⟨rfl, rfl⟩))
        all_goals go_ret
        all_goals exact ⟨by rw [HF.out]; rfl, by exact below_⟩
      cases h3 : inB s.t 0 50
      · have HF := Lib.hid (all_not HS1.out (show secOk s = false by simp [secOk, h1, h2, h3]))
        go_wp2
        go_region_held3 (fun w' => w'.cell? ⟨b1, o1 + k * 4, none⟩ = some (.int .i64 s.p) ∧ w'.cell? ⟨b1, o1 + k * 4 + 1, none⟩ = some (.int .i64 s.q) ∧ w'.cell? ⟨b1, o1 + k * 4 + 2, none⟩ = some (.int .i64 s.ph) ∧ w'.cell? ⟨b1, o1 + k * 4 + 3, none⟩ = some (.int .i64 s.t)) ((first | go_keep | (simp [go_sem, *]; done))) (first | (go_at_call 51; (with_reducible refine (sdirection_t s.p s.q _ (by assumption)).mono ?_); rintro e w1 ⟨rfl, hb⟩; obtain ⟨hc, hf⟩ := bf hb (w.heap.size) side_; have hs := hb.size; (try simp only [World.size_alloc, World.size_setCell, World.size_drew, World.heap_drewN] at hs); have hl : w.heap.size ≤ w1.heap.size := (by omega); obtain ⟨B, hBe, hBl, hc2, hf2⟩ := bfA hb; (try simp only [World.size_alloc, World.size_setCell, World.size_drew, World.heap_drewN] at hBe); have hB : Below w.heap.size w w1 := bstep (by exact below_) hb side_; clear hs hb))
        all_goals go_wp2_with (first | (go_at_call 73; refine (l6in_t _ _ _ _ (by assumption)).mono ?_; rintro e w1 ⟨rfl, rfl⟩) | (go_at_call 73; refine (l6in_f _ _ _ _ (by assumption)).mono ?_; rintro e w1 ⟨rfl, rfl⟩))
        all_goals go_ret
        all_goals exact ⟨by rw [HF.out]; rfl, by exact below_⟩
      · have hok : secOk s = true := by simp [secOk, h1, h2, h3]
        have HO := Lib.hid hok
        clear hok
        go_wp2
        go_region_held3 (fun w' => w'.cell? ⟨b1, o1 + k * 4, none⟩ = some (.int .i64 s.p) ∧ w'.cell? ⟨b1, o1 + k * 4 + 1, none⟩ = some (.int .i64 s.q) ∧ w'.cell? ⟨b1, o1 + k * 4 + 2, none⟩ = some (.int .i64 s.ph) ∧ w'.cell? ⟨b1, o1 + k * 4 + 3, none⟩ = some (.int .i64 s.t)) ((first | go_keep | (simp [go_sem, *]; done))) (first | (go_at_call 51; (with_reducible refine (sdirection_t s.p s.q _ (by assumption)).mono ?_); rintro e w1 ⟨rfl, hb⟩; obtain ⟨hc, hf⟩ := bf hb (w.heap.size) side_; have hs := hb.size; (try simp only [World.size_alloc, World.size_setCell, World.size_drew, World.heap_drewN] at hs); have hl : w.heap.size ≤ w1.heap.size := (by omega); obtain ⟨B, hBe, hBl, hc2, hf2⟩ := bfA hb; (try simp only [World.size_alloc, World.size_setCell, World.size_drew, World.heap_drewN] at hBe); have hB : Below w.heap.size w w1 := bstep (by exact below_) hb side_; clear hs hb))
        all_goals go_wp2_with ((go_at_call 73; refine (l6in_t _ _ _ _ (by assumption)).mono ?_; rintro e w1 ⟨rfl, rfl⟩))
        all_goals (go_roundw; (case rel => exact ⟨k + 1, by omega, by go_num, by rw [Hid, all_take_succ HS1.out, hall.out, HO.out]; rfl, by exact below_⟩); (case measure => simp [intOf]; omega))
    · go_wp2
      go_ret
      have e : k = len := by omega
      subst e
      have e2 := hall.out
      rw [List.take_of_length_le (by rw [hxl.out]; omega)] at e2
      have e3 : fibOk xs = decide ((k : Int) ≤ 8) := by simp [fibOk, e2, hxl.out]; omega
      rw [e3]
      exact ⟨rfl, hb⟩
end Go.Proofs.YtiagnnmnaakmoaaDoor
