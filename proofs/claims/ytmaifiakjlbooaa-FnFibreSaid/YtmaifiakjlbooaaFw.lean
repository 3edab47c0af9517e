/-
  The walks of the statements on fibres and on their ways back: they return true, whatever the bytes.
-/
import Derived.Test.YtmaifiakjlbooaaDf
import Derived.Test.YtmaifiakjlbooaaEx
namespace Go.Proofs.Ytmaifiakjlbooaa
set_option linter.unusedSimpArgs false
set_option linter.unusedVariables false
open Go.RowKit
theorem tmod4 (x : Int) (h0 : 0 ≤ x) (h1 : x ≤ 3) : (0 ≤ (4 - x).tmod 4 ∧ (4 - x).tmod 4 ≤ 3) ∧ (4 - (4 - x).tmod 4).tmod 4 = x := by
  rcases (show x = 0 ∨ x = 1 ∨ x = 2 ∨ x = 3 by omega) with rfl | rfl | rfl | rfl <;> decide
theorem secOk_turn {s : Sec} (h : secOk s = true) : secOk (turnS s) = true := by
  simp only [secOk, Bool.and_eq_true, inB_iff] at h
  have := tmod4 s.ph h.1.2.1 h.1.2.2
  simp only [secOk, turnS, Bool.and_eq_true, inB_iff]
  exact ⟨⟨h.1.1, this.1⟩, h.2⟩
theorem secOk_all {xs : List Sec} (h : fibOk xs = true) : ∀ s ∈ xs, secOk s = true := by
  simp only [fibOk, Bool.and_eq_true] at h
  exact List.all_eq_true.1 h.1
theorem fibOk_of {xs : List Sec} (h : ∀ s ∈ xs, secOk s = true) (hl : xs.length ≤ 8) : fibOk xs = true := by
  simp only [fibOk, Bool.and_eq_true, decide_eq_true_eq]
  exact ⟨List.all_eq_true.2 h, hl⟩
theorem fibOk_back {xs : List Sec} (h : fibOk xs = true) : fibOk (backI xs) = true := by
  refine fibOk_of (fun s hs => ?_) (backI_len xs)
  rw [backI, if_pos h] at hs
  obtain ⟨z, hz, rfl⟩ := List.mem_map.1 hs
  exact secOk_turn (secOk_all h z (by simpa using hz))
theorem fibOk_take {xs : List Sec} (h : fibOk xs = true) (n : Nat) : fibOk (xs.take n) = true :=
  fibOk_of (fun s hs => secOk_all h s (List.mem_of_mem_take hs)) (Nat.le_trans (List.length_take_le' n xs) (fibOk_len h))
theorem back_back {xs : List Sec} (h : fibOk xs = true) : backI (backI xs) = xs := by
  have h2 := fibOk_back h
  rw [backI, if_pos h2, backI, if_pos h, ← List.map_reverse, List.reverse_reverse, List.map_map]
  have : ∀ s ∈ xs, (turnS ∘ turnS) s = s := by
    intro s hs
    obtain ⟨h0, h1⟩ := fibOk_ph h hs
    have := (tmod4 s.ph h0 h1).2
    cases s
    simp only [Function.comp, turnS] at this ⊢
    rw [this]
  rw [List.map_congr_left this, List.map_id']
set_option maxRecDepth 100000 in
set_option maxHeartbeats 1000000 in
theorem fnFibre_walk (A : Option Addr) (len cap : Nat) (w : World) (hby : Bytes A len cap w) :
    Calls Try.prog 3 #[.slice A len cap] w fun e w' => e = .returned (.bool true) ∧ Below w.heap.size w w' := by
  by_cases hl : len ≤ 1048576
  · have hd : decide ((1048576 : Int) < (len : Int)) = false := by simp; omega
    go_enter Try.func3, Try.ntmps3
    go_wp2_with (go_at_call 7; (with_reducible refine (drawFibreValid_any A len cap _ hby).mono ?_); rintro e w1 ⟨xs, v, rfl, ⟨hO, hl7⟩, hB⟩; refine Hid.out ?_)
    refine Lib.hid ?_
    have hz := hB.size
    obtain ⟨A1, c1, rfl, hS⟩ := hO.secs
    obtain ⟨n, hn⟩ : ∃ n, n = xs.length := ⟨_, rfl⟩
    rw [← hn] at hO hl7 hS ⊢
    have hcap := hS.2.1
    have hcap2 := hS.2.2.1
    have HN := Lib.hid hn
    clear hn
    cases hf : fibOk xs
    · go_wp2_with (first | (go_at_call 8; (with_reducible refine (fibValid_f A1 n c1 xs _ hS hf).mono ?_); rintro e w2 ⟨rfl, hb⟩; have hB2 : Below w.heap.size w w2 := bstep hB hb hz; have hS2 := hS.below hb; clear hb) | (go_at_call 9; (with_reducible refine (sfibValid_f A1 n c1 xs _ hS2 hf).mono ?_); rintro e w3 ⟨rfl, hb⟩; have hB3 : Below w.heap.size w w3 := bstep hB2 hb hB2.size; clear hb))
      go_ret
      exact ⟨rfl, by (repeat' (first | (with_reducible exact Below.refl _ _) | (with_reducible assumption) | (with_reducible refine Below.setCell ?_ (by first | omega | (simp; done) | (simp; omega)) _) | (with_reducible refine Below.alloc ?_ (by first | omega | (simp; done) | (simp; omega)) _) | (with_reducible refine below_drewN ?_ _) | (with_reducible refine Below.drew ?_)))⟩
    · have hfb := fibOk_back hf
      have hft := fibOk_take hf (n - 1)
      go_wp2_with (first | (go_at_call 8; (with_reducible refine (fibValid_t A1 n c1 xs _ hS hf).mono ?_); rintro e w2 ⟨rfl, hb⟩; have hB2 : Below w.heap.size w w2 := bstep hB hb hz; have hS2 := hS.below hb; clear hb) | (go_at_call 9; (with_reducible refine (sfibValid_t A1 n c1 xs _ hS2 hf).mono ?_); rintro e w3 ⟨rfl, hb⟩; have hB3 : Below w.heap.size w w3 := bstep hB2 hb hB2.size; have hS3 := hS2.below hb; clear hb; refine Hid.out ?_))
      refine Lib.hid ?_
      go_wp2_with (go_at_call 10; (with_reducible refine (back_any A1 n c1 xs _ hS3).mono ?_); rintro e w4 ⟨v4, rfl, hO4, hb⟩; refine Hid.out ?_)
      refine Lib.hid ?_
      have hB4 := bstep hB3 hb hB3.size
      have hS4 := hS3.below hb
      obtain ⟨A4, c4, rfl, hSb⟩ := hO4.secs
      clear hb
      by_cases hn0 : n = 0
      · go_wp2_with (go_at_call 8; (with_reducible refine (fibValid_t A4 _ c4 (backI xs) _ hSb hfb).mono ?_); rintro e w5 ⟨rfl, hb⟩; have hB5 : Below w.heap.size w w5 := bstep hB4 hb hB4.size; clear hb)
        go_ret
        exact ⟨rfl, by (repeat' (first | (with_reducible exact Below.refl _ _) | (with_reducible assumption) | (with_reducible refine Below.setCell ?_ (by first | omega | (simp; done) | (simp; omega)) _) | (with_reducible refine Below.alloc ?_ (by first | omega | (simp; done) | (simp; omega)) _) | (with_reducible refine below_drewN ?_ _) | (with_reducible refine Below.drew ?_)))⟩
      · obtain ⟨m, rfl⟩ : ∃ m, n = m + 1 := ⟨n - 1, by omega⟩
        rw [Nat.add_sub_cancel] at hft
        have hSt := hS4.take m (by omega)
        obtain ⟨bb, off, s0, rfl, -, -, -⟩ := hS4.at (Below.refl _ _) (show 0 < m + 1 by omega)
        go_wp2_with (first | (go_at_call 8; (with_reducible refine (fibValid_t A4 _ c4 (backI xs) _ hSb hfb).mono ?_); rintro e w5 ⟨rfl, hb⟩; have hB5 : Below w.heap.size w w5 := bstep hB4 hb hB4.size; have hSt5 := hSt.below hb; clear hb) | (go_at_call 8; (with_reducible refine (fibValid_t _ m c1 (xs.take m) _ hSt5 hft).mono ?_); rintro e w6 ⟨rfl, hb⟩; have hB6 : Below w.heap.size w w6 := bstep hB5 hb hB5.size; clear hb))
        go_ret
        exact ⟨rfl, by (repeat' (first | (with_reducible exact Below.refl _ _) | (with_reducible assumption) | (with_reducible refine Below.setCell ?_ (by first | omega | (simp; done) | (simp; omega)) _) | (with_reducible refine Below.alloc ?_ (by first | omega | (simp; done) | (simp; omega)) _) | (with_reducible refine below_drewN ?_ _) | (with_reducible refine Below.drew ?_)))⟩
  · have hd : decide ((1048576 : Int) < (len : Int)) = true := by simp; omega
    go_enter Try.func3, Try.ntmps3
    go_wp2
    go_ret
    exact ⟨rfl, by (repeat' (first | (with_reducible exact Below.refl _ _) | (with_reducible assumption) | (with_reducible refine Below.setCell ?_ (by first | omega | (simp; done) | (simp; omega)) _) | (with_reducible refine Below.alloc ?_ (by first | omega | (simp; done) | (simp; omega)) _) | (with_reducible refine below_drewN ?_ _) | (with_reducible refine Below.drew ?_)))⟩
set_option maxRecDepth 100000 in
set_option maxHeartbeats 1000000 in
theorem fnFibreBack_walk (A : Option Addr) (len cap : Nat) (w : World) (hby : Bytes A len cap w) :
    Calls Try.prog 4 #[.slice A len cap] w fun e w' => e = .returned (.bool true) ∧ Below w.heap.size w w' := by
  by_cases hl : len ≤ 1048576
  · have hd : decide ((1048576 : Int) < (len : Int)) = false := by simp; omega
    go_enter Try.func4, Try.ntmps4
    go_wp2_with (go_at_call 11; (with_reducible refine (drawFibreBack_any A len cap _ hby).mono ?_); rintro e w1 ⟨xs, v, rfl, ⟨hO, hl7⟩, hB⟩; refine Hid.out ?_)
    refine Lib.hid ?_
    obtain ⟨A1, c1, rfl, -⟩ := hO.secs
    go_wp2_with (go_at_call 10; (with_reducible refine (back_any A1 _ c1 xs _ hO.read).mono ?_); rintro e w2 ⟨v2, rfl, hO2, hb⟩; refine Hid.out ?_)
    refine Lib.hid ?_
    have hB := bstep hB hb hB.size
    have hO := hO.below hb
    clear hb
    obtain ⟨A2, c2, rfl, -⟩ := hO2.secs
    go_wp2_with (go_at_call 12; (with_reducible refine (sback_any A1 _ c1 xs _ hO.read).mono ?_); rintro e w3 ⟨v3, rfl, hO3, hb⟩; refine Hid.out ?_)
    refine Lib.hid ?_
    have hB := bstep hB hb hB.size
    have hO := hO.below hb
    have hO2 := hO2.below hb
    clear hb
    obtain ⟨A3, c3, rfl, -⟩ := hO3.secs
    go_wp2_with (go_at_call 13; (with_reducible refine (sameFibre_refl A2 A3 _ c2 c3 _ _ hO2.read hO3.read).mono ?_); rintro e w4 ⟨rfl, hb⟩; refine Hid.out ?_)
    refine Lib.hid ?_
    have hB := bstep hB hb hB.size
    have hO := hO.below hb
    have hO2 := hO2.below hb
    have hO3 := hO3.below hb
    clear hb
    cases hf : fibOk xs
    · go_wp2_with (go_at_call 13; (with_reducible refine (sameFibre_refl A2 A3 _ c2 c3 _ _ hO2.read hO3.read).mono ?_); rintro e w5 ⟨rfl, hb⟩; have hB5 : Below w.heap.size w w5 := bstep hB hb hB.size; clear hb)
      go_ret
      exact ⟨rfl, by (repeat' (first | (with_reducible exact Below.refl _ _) | (with_reducible assumption) | (with_reducible refine Below.setCell ?_ (by first | omega | (simp; done) | (simp; omega)) _) | (with_reducible refine Below.alloc ?_ (by first | omega | (simp; done) | (simp; omega)) _) | (with_reducible refine below_drewN ?_ _) | (with_reducible refine Below.drew ?_)))⟩
    · have hbb := back_back hf
      have hfb := fibOk_back hf
      go_wp2_with (go_at_call 10; (with_reducible refine (back_any A2 _ c2 _ _ hO2.read).mono ?_); rintro e w5 ⟨v5, rfl, hO5, hb⟩; refine Hid.out ?_)
      refine Lib.hid ?_
      rw [hbb] at hO5
      have hB := bstep hB hb hB.size
      have hO := hO.below hb
      clear hb
      obtain ⟨A5, c5, rfl, -⟩ := hO5.secs
      go_wp2_with (go_at_call 13; (with_reducible refine (sameFibre_refl A5 A1 _ c5 c1 _ _ hO5.read hO.read).mono ?_); rintro e w6 ⟨rfl, hb⟩; have hB6 : Below w.heap.size w w6 := bstep hB hb hB.size; clear hb)
      go_ret
      exact ⟨rfl, by (repeat' (first | (with_reducible exact Below.refl _ _) | (with_reducible assumption) | (with_reducible refine Below.setCell ?_ (by first | omega | (simp; done) | (simp; omega)) _) | (with_reducible refine Below.alloc ?_ (by first | omega | (simp; done) | (simp; omega)) _) | (with_reducible refine below_drewN ?_ _) | (with_reducible refine Below.drew ?_)))⟩
  · have hd : decide ((1048576 : Int) < (len : Int)) = true := by simp; omega
    go_enter Try.func4, Try.ntmps4
    go_wp2
    go_ret
    exact ⟨rfl, by (repeat' (first | (with_reducible exact Below.refl _ _) | (with_reducible assumption) | (with_reducible refine Below.setCell ?_ (by first | omega | (simp; done) | (simp; omega)) _) | (with_reducible refine Below.alloc ?_ (by first | omega | (simp; done) | (simp; omega)) _) | (with_reducible refine below_drewN ?_ _) | (with_reducible refine Below.drew ?_)))⟩
end Go.Proofs.Ytmaifiakjlbooaa
