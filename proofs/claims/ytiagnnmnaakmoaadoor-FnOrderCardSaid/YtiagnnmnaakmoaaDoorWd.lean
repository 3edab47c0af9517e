/-
  The walks of the reference's operations on exact fractions that are made of others.
-/
import Derived.Test.YtiagnnmnaakmoaaDoorWc
namespace Go.Proofs.YtiagnnmnaakmoaaDoor
set_option linter.unusedSimpArgs false
set_option linter.unusedVariables false
open Go.RowKit
theorem sum_bd (a b : Fr) (ha : fvalid a = true) (hb : fvalid b = true) : (-4000000000000000000 ≤ a.re * b.den ∧ a.re * b.den ≤ 4000000000000000000) ∧ (-4000000000000000000 ≤ b.re * a.den ∧ b.re * a.den ≤ 4000000000000000000) ∧ (-4000000000000000000 ≤ a.im * b.den ∧ a.im * b.den ≤ 4000000000000000000) ∧ (-4000000000000000000 ≤ b.im * a.den ∧ b.im * a.den ≤ 4000000000000000000) ∧ (1 ≤ a.den * b.den ∧ a.den * b.den ≤ 4000000000000000000) := by
  obtain ⟨⟨a1, a2⟩, ⟨a3, a4⟩, ⟨a5, a6⟩⟩ := fvalid_bd a ha
  obtain ⟨⟨b1, b2⟩, ⟨b3, b4⟩, ⟨b5, b6⟩⟩ := fvalid_bd b hb
  exact ⟨mulbd _ _ a1 a2 (by omega) b6, mulbd _ _ b1 b2 (by omega) a6, mulbd _ _ a3 a4 (by omega) b6, mulbd _ _ b3 b4 (by omega) a6, mulbd1 _ _ a5 a6 b5 b6⟩
set_option maxHeartbeats 1000000 in
theorem ssum_add (a b : Fr) (w : World) :
    Calls Tryd.prog 87 #[frv a, .int .i64 (1), frv b] w fun e w' => e = .returned (frb (addI a b)) ∧ Below w.heap.size w w' := by
  cases ha : fvalid a
  · have e : addI a b = none := by simp [addI, ha]
    rw [e]; clear e
    go_enter Tryd.func87, Tryd.ntmps87
    go_wp2_with (first | (go_at_call 76; (with_reducible refine (sfvalid_f _ _ (by assumption)).mono ?_); rintro e w1 ⟨rfl, hb⟩; obtain ⟨hc, hf⟩ := bf hb (w.heap.size + 1 + 1 + 1) side_; have hs := hb.size; (try simp only [World.size_alloc, World.size_setCell, World.size_drew, World.heap_drewN] at hs); have hl : w.heap.size ≤ w1.heap.size ∧ w.heap.size < w1.heap.size ∧ w.heap.size + 1 < w1.heap.size ∧ w.heap.size + 1 + 1 < w1.heap.size := ⟨by omega, by omega, by omega, by omega⟩; have hB : Below w.heap.size w w1 := bstep (by exact below_) hb side_; clear hs hb))
    exact bodyPost_ret (v := frb none) (by simp [results, Tryd.results87, go_sem, *]) rfl ⟨rfl, by exact below_⟩
  cases hb : fvalid b
  · have e : addI a b = none := by simp [addI, ha, hb]
    rw [e]; clear e
    go_enter Tryd.func87, Tryd.ntmps87
    go_wp2_with (first | (go_at_call 76; (with_reducible refine (sfvalid_t _ _ (by assumption)).mono ?_); rintro e w1 ⟨rfl, hb⟩; obtain ⟨hc, hf⟩ := bf hb (w.heap.size + 1 + 1 + 1) side_; have hs := hb.size; (try simp only [World.size_alloc, World.size_setCell, World.size_drew, World.heap_drewN] at hs); have hl : w.heap.size ≤ w1.heap.size ∧ w.heap.size < w1.heap.size ∧ w.heap.size + 1 < w1.heap.size ∧ w.heap.size + 1 + 1 < w1.heap.size := ⟨by omega, by omega, by omega, by omega⟩; have hB : Below w.heap.size w w1 := bstep (by exact below_) hb side_; clear hs hb) | (go_at_call 76; (with_reducible refine (sfvalid_f _ _ (by assumption)).mono ?_); rintro e w1 ⟨rfl, hb⟩; obtain ⟨hc, hf⟩ := bf hb (w.heap.size + 1 + 1 + 1) side_; have hs := hb.size; (try simp only [World.size_alloc, World.size_setCell, World.size_drew, World.heap_drewN] at hs); have hl : w.heap.size ≤ w1.heap.size ∧ w.heap.size < w1.heap.size ∧ w.heap.size + 1 < w1.heap.size ∧ w.heap.size + 1 + 1 < w1.heap.size := ⟨by omega, by omega, by omega, by omega⟩; have hB : Below w.heap.size w w1 := bstep (by exact below_) hb side_; clear hs hb))
    exact bodyPost_ret (v := frb none) (by simp [results, Tryd.results87, go_sem, *]) rfl ⟨rfl, by exact below_⟩
  obtain ⟨⟨p1, p2⟩, ⟨p3, p4⟩, ⟨p5, p6⟩, ⟨p7, p8⟩, ⟨p9, p10⟩⟩ := sum_bd a b ha hb
  have e : addI a b = lowI (a.re * b.den + b.re * a.den) (a.im * b.den + b.im * a.den) (a.den * b.den) := by simp [addI, ha, hb]
  rw [e]; clear e
  obtain ⟨⟨b1, b2⟩, ⟨b3, b4⟩, ⟨b5, b6⟩⟩ := fvalid_bd b hb
  go_enter Tryd.func87, Tryd.ntmps87
  go_wp2_with (first | (go_at_call 76; (with_reducible refine (sfvalid_t _ _ (by assumption)).mono ?_); rintro e w1 ⟨rfl, hb⟩; obtain ⟨hc, hf⟩ := bf hb (w.heap.size + 1 + 1 + 1) side_; have hs := hb.size; (try simp only [World.size_alloc, World.size_setCell, World.size_drew, World.heap_drewN] at hs); have hl : w.heap.size ≤ w1.heap.size ∧ w.heap.size < w1.heap.size ∧ w.heap.size + 1 < w1.heap.size ∧ w.heap.size + 1 + 1 < w1.heap.size := ⟨by omega, by omega, by omega, by omega⟩; have hB : Below w.heap.size w w1 := bstep (by exact below_) hb side_; clear hs hb) | (go_at_call 77; (with_reducible refine (slow_any _ _ _ _ (by omega) (by omega) (by omega) (by omega) (by omega) (by omega)).mono ?_); rintro e w1 ⟨rfl, hb⟩; obtain ⟨hc, hf⟩ := bf hb (w.heap.size + 1 + 1 + 1) side_; have hs := hb.size; (try simp only [World.size_alloc, World.size_setCell, World.size_drew, World.heap_drewN] at hs); have hl : w.heap.size ≤ w1.heap.size ∧ w.heap.size < w1.heap.size ∧ w.heap.size + 1 < w1.heap.size ∧ w.heap.size + 1 + 1 < w1.heap.size := ⟨by omega, by omega, by omega, by omega⟩; have hB : Below w.heap.size w w1 := bstep (by exact below_) hb side_; clear hs hb))
  exact bodyPost_ret (v := frb (lowI (a.re * b.den + b.re * a.den) (a.im * b.den + b.im * a.den) (a.den * b.den))) (by simp [results, Tryd.results87, go_sem, *]) rfl ⟨rfl, by exact below_⟩
set_option maxHeartbeats 400000 in
theorem sadd_any (a b : Fr) (w : World) :
    Calls Tryd.prog 80 #[frv a, frv b] w fun e w' => e = .returned (frb (addI a b)) ∧ Below w.heap.size w w' := by
  go_enter Tryd.func80, Tryd.ntmps80
  go_wp2_with (first | (go_at_call 87; (with_reducible refine (ssum_add a b _).mono ?_); rintro e w1 ⟨rfl, hb⟩; obtain ⟨hc, hf⟩ := bf hb (w.heap.size + 1 + 1 + 1) side_; have hs := hb.size; (try simp only [World.size_alloc, World.size_setCell, World.size_drew, World.heap_drewN] at hs); have hl : w.heap.size ≤ w1.heap.size ∧ w.heap.size < w1.heap.size ∧ w.heap.size + 1 < w1.heap.size ∧ w.heap.size + 1 + 1 < w1.heap.size := ⟨by omega, by omega, by omega, by omega⟩; have hB : Below w.heap.size w w1 := bstep (by exact below_) hb side_; clear hs hb))
  exact bodyPost_ret (v := frb (addI a b)) (by simp [results, Tryd.results80, go_sem, *]) rfl ⟨rfl, by exact below_⟩
set_option maxHeartbeats 400000 in
theorem smirror_any (a : Fr) (w : World) :
    Calls Tryd.prog 86 #[frv a] w fun e w' => e = .returned (frb (mirrorI a)) ∧ Below w.heap.size w w' := by
  cases ha : fvalid a
  · have e : mirrorI a = none := by simp [mirrorI, ha]
    rw [e]; clear e
    go_enter Tryd.func86, Tryd.ntmps86
    go_wp2_with (first | (go_at_call 76; (with_reducible refine (sfvalid_f _ _ (by assumption)).mono ?_); rintro e w1 ⟨rfl, hb⟩; obtain ⟨hc, hf⟩ := bf hb (w.heap.size + 1 + 1) side_; have hs := hb.size; (try simp only [World.size_alloc, World.size_setCell, World.size_drew, World.heap_drewN] at hs); have hl : w.heap.size ≤ w1.heap.size ∧ w.heap.size < w1.heap.size ∧ w.heap.size + 1 < w1.heap.size := ⟨by omega, by omega, by omega⟩; have hB : Below w.heap.size w w1 := bstep (by exact below_) hb side_; clear hs hb))
    exact bodyPost_ret (v := frb none) (by simp [results, Tryd.results86, go_sem, *]) rfl ⟨rfl, by exact below_⟩
  · have e : mirrorI a = some ⟨a.re, -a.im, a.den⟩ := by simp [mirrorI, ha]
    rw [e]; clear e
    obtain ⟨⟨a1, a2⟩, ⟨a3, a4⟩, ⟨a5, a6⟩⟩ := fvalid_bd a ha
    go_enter Tryd.func86, Tryd.ntmps86
    go_wp2_with (first | (go_at_call 76; (with_reducible refine (sfvalid_t _ _ (by assumption)).mono ?_); rintro e w1 ⟨rfl, hb⟩; obtain ⟨hc, hf⟩ := bf hb (w.heap.size + 1 + 1) side_; have hs := hb.size; (try simp only [World.size_alloc, World.size_setCell, World.size_drew, World.heap_drewN] at hs); have hl : w.heap.size ≤ w1.heap.size ∧ w.heap.size < w1.heap.size ∧ w.heap.size + 1 < w1.heap.size := ⟨by omega, by omega, by omega⟩; have hB : Below w.heap.size w w1 := bstep (by exact below_) hb side_; clear hs hb))
    exact bodyPost_ret (v := frb (some ⟨a.re, -a.im, a.den⟩)) (by simp [results, Tryd.results86, go_sem, *]) rfl ⟨rfl, by exact below_⟩
set_option maxHeartbeats 1000000 in
theorem smake_any (re im den : Int) (w : World) :
    Calls Tryd.prog 74 #[.int .i64 re, .int .i64 im, .int .i64 den] w fun e w' => e = .returned (frb (makeI re im den)) ∧ Below w.heap.size w w' := by
  have ARMS : True := trivial
  cases h1 : inB den 1 1000000000000000000
  · have e : makeI re im den = none := by simp [makeI, h1]
    rw [e]; clear e
    go_enter Tryd.func74, Tryd.ntmps74
    go_wp2_with (first | (go_at_call 73; refine (l6in_f _ _ _ _ (by assumption)).mono ?_; rintro e w1 ⟨rfl, rfl⟩))
    exact bodyPost_ret (v := frb none) (by simp [results, Tryd.results74, go_sem, *]) rfl ⟨rfl, by exact below_⟩
  cases h2 : inB re (-1000000000000000000) 1000000000000000000
  · have e : makeI re im den = none := by simp [makeI, h2]
    rw [e]; clear e
    go_enter Tryd.func74, Tryd.ntmps74
    go_wp2_with (first | (go_at_call 73; refine (l6in_t _ _ _ _ (by assumption)).mono ?_; rintro e w1 ⟨rfl, rfl⟩) | (go_at_call 73; refine (l6in_f _ _ _ _ (by assumption)).mono ?_; rintro e w1 ⟨rfl, rfl⟩))
    exact bodyPost_ret (v := frb none) (by simp [results, Tryd.results74, go_sem, *]) rfl ⟨rfl, by exact below_⟩
  cases h3 : inB im (-1000000000000000000) 1000000000000000000
  · have e : makeI re im den = none := by simp [makeI, h3]
    rw [e]; clear e
    go_enter Tryd.func74, Tryd.ntmps74
    go_wp2_with (first | (go_at_call 73; refine (l6in_t _ _ _ _ (by assumption)).mono ?_; rintro e w1 ⟨rfl, rfl⟩) | (go_at_call 73; refine (l6in_f _ _ _ _ (by assumption)).mono ?_; rintro e w1 ⟨rfl, rfl⟩))
    exact bodyPost_ret (v := frb none) (by simp [results, Tryd.results74, go_sem, *]) rfl ⟨rfl, by exact below_⟩
  have e : makeI re im den = lowI re im den := by simp [makeI, h1, h2, h3]
  rw [e]; clear e
  have k1 := h1; have k2 := h2; have k3 := h3
  rw [inB_iff] at k1 k2 k3
  obtain ⟨k1, k1'⟩ := k1; obtain ⟨k2, k2'⟩ := k2; obtain ⟨k3, k3'⟩ := k3
  go_enter Tryd.func74, Tryd.ntmps74
  go_wp2_with (first | (go_at_call 73; refine (l6in_t _ _ _ _ (by assumption)).mono ?_; rintro e w1 ⟨rfl, rfl⟩) | (go_at_call 77; (with_reducible refine (slow_any _ _ _ _ (by omega) (by omega) (by omega) (by omega) (by omega) (by omega)).mono ?_); rintro e w1 ⟨rfl, hb⟩; obtain ⟨hc, hf⟩ := bf hb (w.heap.size + 1) side_; have hs := hb.size; (try simp only [World.size_alloc, World.size_setCell, World.size_drew, World.heap_drewN] at hs); have hl : w.heap.size ≤ w1.heap.size ∧ w.heap.size < w1.heap.size := ⟨by omega, by omega⟩; have hB : Below w.heap.size w w1 := bstep (by exact below_) hb side_; clear hs hb))
  exact bodyPost_ret (v := frb (lowI re im den)) (by simp [results, Tryd.results74, go_sem, *]) rfl ⟨rfl, by exact below_⟩
end Go.Proofs.YtiagnnmnaakmoaaDoor
