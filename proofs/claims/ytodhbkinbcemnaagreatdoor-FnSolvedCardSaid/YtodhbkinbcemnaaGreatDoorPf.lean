/-
  Texts of this claim, joined: Se; Di; Mu; Nc. Nothing is claimed here; the other texts of this claim use it.
-/
import Derived.Test.YtodhbkinbcemnaaGreatDoorPa
import Derived.Deep.Slices
import Derived.OwnWalk
import Derived.Test.YtodhbkinbcemnaaGreatDoorQw
import Derived.Test.YtodhbkinbcemnaaGreatDoorNa
namespace Go.Proofs.YtodhbkinbcemnaaGreatDoor
set_option linter.unusedSimpArgs false
set_option linter.unusedVariables false
section
open Go.RowKit
/-- A section of a fibre. -/
structure Sec where
  p : Int
  q : Int
  ph : Int
  t : Int
  deriving DecidableEq
/-- Whether a direction can be told. -/
def dirOk (p q : Int) : Bool := inB p (-100) 100 && inB q (-100) 100 && !(p == 0 && q == 0)
def dirC (p q : Int) : Fr := (lowI (p * p - q * q) 0 (p * p + q * q)).getD ⟨0, 0, 0⟩
def dirS (p q : Int) : Fr := (lowI (2 * p * q) 0 (p * p + q * q)).getD ⟨0, 0, 0⟩
theorem dir_bd (p q : Int) (h : dirOk p q = true) : (1 ≤ p * p + q * q ∧ p * p + q * q ≤ 20000) ∧ (-20000 ≤ p * p - q * q ∧ p * p - q * q ≤ 20000) ∧ (-20000 ≤ 2 * p * q ∧ 2 * p * q ≤ 20000) ∧ (0 ≤ p * p ∧ p * p ≤ 10000) ∧ (0 ≤ q * q ∧ q * q ≤ 10000) ∧ (-200 ≤ 2 * p ∧ 2 * p ≤ 200) := by
  simp only [dirOk, inB, Bool.and_eq_true, decide_eq_true_eq, Bool.not_eq_true', Bool.and_eq_false_iff, beq_eq_false_iff_ne] at h
  obtain ⟨⟨⟨a, b⟩, c, d⟩, e⟩ := h
  have sq : ∀ x : Int, 0 ≤ x * x := fun x => by rw [← Int.natAbs_mul_self]; omega
  have sq1 : ∀ x : Int, x ≠ 0 → 1 ≤ x * x := fun x hx => by
    have h0 := sq x
    have : x * x ≠ 0 := fun e => hx (by simpa using Int.mul_eq_zero.1 e)
    omega
  have up : ∀ x y : Int, -100 ≤ x → x ≤ 100 → -100 ≤ y → y ≤ 100 → -10000 ≤ x * y ∧ x * y ≤ 10000 := fun x y h1 h2 h3 h4 => by
    have h : (x * y).natAbs ≤ 100 * 100 := by
      rw [Int.natAbs_mul]
      exact Nat.mul_le_mul (by omega) (by omega)
    omega
  have p1 := up p p a b a b
  have q1 := up q q c d c d
  have pq := up p q a b c d
  have p0 := sq p
  have q0 := sq q
  have : 1 ≤ p * p + q * q := by
    rcases e with e | e
    · have := sq1 p e; omega
    · have := sq1 q e; omega
  have e2 : 2 * p * q = 2 * (p * q) := by rw [Int.mul_assoc]
  omega
end
section
open Go.RowKit
set_option maxHeartbeats 1000000 in
theorem direction_t (p q : Int) (w : World) (h : dirOk p q = true) :
    Calls Tryz.prog 35 #[.int .i64 p, .int .i64 q] w fun e w' => e = .returned (.tuple #[frv (dirC p q), frv (dirS p q), .bool true]) ∧ Below w.heap.size w w' := by
  obtain ⟨⟨b1, b2⟩, ⟨b3, b4⟩, ⟨b5, b6⟩, ⟨b7, b8⟩, ⟨b9, b10⟩, ⟨b11, b12⟩⟩ := dir_bd p q h
  simp only [dirOk, Bool.and_eq_true, Bool.not_eq_true'] at h
  obtain ⟨⟨h1, h2⟩, h3⟩ := h
  unfold dirC dirS
  by_cases hp : p = 0
  · have hq : ¬ q = 0 := by intro e; subst hp; subst e; simp at h3
    clear h3
    subst hp
    simp only [Int.mul_zero, Int.zero_mul, Int.zero_add, Int.zero_sub] at *
    go_enter Tryz.func35, Tryz.ntmps35
    go_wp2_with (first | (go_at_call 32; refine (within_t _ _ _ _ (by assumption)).mono ?_; rintro e w1 ⟨rfl, rfl⟩) | (go_at_call 75; (with_reducible refine (lowest_any _ _ _ _ (by omega) (by omega) (by omega) (by omega) (by omega) (by omega)).mono ?_); rintro e w1 ⟨rfl, hb⟩; obtain ⟨hc, hf⟩ := bf hb (w.heap.size + 1 + 1) side_; have hs := hb.size; (try simp only [World.size_alloc, World.size_setCell, World.size_drew, World.heap_drewN] at hs); have hl : w.heap.size ≤ w1.heap.size ∧ w.heap.size < w1.heap.size ∧ w.heap.size + 1 < w1.heap.size := ⟨by omega, by omega, by omega⟩; obtain ⟨B, hBe, hBl, hc2, hf2⟩ := bfA hb; (try simp only [World.size_alloc, World.size_setCell, World.size_drew, World.heap_drewN] at hBe); have hB : Below w.heap.size w w1 := bstep (by exact below_) hb side_; clear hs hb))
    go_region
    go_wp2
    all_goals exact bodyPost_ret (by simp [results, Tryz.results35, go_sem, *]) rfl ⟨rfl, by exact below_⟩
  · clear h3
    go_enter Tryz.func35, Tryz.ntmps35
    go_wp2_with (first | (go_at_call 32; refine (within_t _ _ _ _ (by assumption)).mono ?_; rintro e w1 ⟨rfl, rfl⟩) | (go_at_call 75; (with_reducible refine (lowest_any _ _ _ _ (by omega) (by omega) (by omega) (by omega) (by omega) (by omega)).mono ?_); rintro e w1 ⟨rfl, hb⟩; obtain ⟨hc, hf⟩ := bf hb (w.heap.size + 1 + 1) side_; have hs := hb.size; (try simp only [World.size_alloc, World.size_setCell, World.size_drew, World.heap_drewN] at hs); have hl : w.heap.size ≤ w1.heap.size ∧ w.heap.size < w1.heap.size ∧ w.heap.size + 1 < w1.heap.size := ⟨by omega, by omega, by omega⟩; obtain ⟨B, hBe, hBl, hc2, hf2⟩ := bfA hb; (try simp only [World.size_alloc, World.size_setCell, World.size_drew, World.heap_drewN] at hBe); have hB : Below w.heap.size w w1 := bstep (by exact below_) hb side_; clear hs hb))
    go_region
    go_wp2
    all_goals exact bodyPost_ret (by simp [results, Tryz.results35, go_sem, *]) rfl ⟨rfl, by exact below_⟩
set_option maxHeartbeats 1000000 in
theorem direction_f (p q : Int) (w : World) (h : dirOk p q = false) :
    Calls Tryz.prog 35 #[.int .i64 p, .int .i64 q] w fun e w' => e = .returned (.tuple #[frv ⟨0, 0, 0⟩, frv ⟨0, 0, 0⟩, .bool false]) ∧ Below w.heap.size w w' := by
  cases h1 : inB p (-100) 100
  · clear h
    go_enter Tryz.func35, Tryz.ntmps35
    go_wp2_with (first | (go_at_call 32; refine (within_t _ _ _ _ (by assumption)).mono ?_; rintro e w1 ⟨rfl, rfl⟩) | (go_at_call 32; refine (within_f _ _ _ _ (by assumption)).mono ?_; rintro e w1 ⟨rfl, rfl⟩))
    exact bodyPost_ret (v := .tuple #[frv ⟨0, 0, 0⟩, frv ⟨0, 0, 0⟩, .bool false]) (by simp [results, Tryz.results35, go_sem, *]) rfl ⟨rfl, by exact below_⟩
  · cases h2 : inB q (-100) 100
    · clear h
      go_enter Tryz.func35, Tryz.ntmps35
      go_wp2_with (first | (go_at_call 32; refine (within_t _ _ _ _ (by assumption)).mono ?_; rintro e w1 ⟨rfl, rfl⟩) | (go_at_call 32; refine (within_f _ _ _ _ (by assumption)).mono ?_; rintro e w1 ⟨rfl, rfl⟩))
      exact bodyPost_ret (v := .tuple #[frv ⟨0, 0, 0⟩, frv ⟨0, 0, 0⟩, .bool false]) (by simp [results, Tryz.results35, go_sem, *]) rfl ⟨rfl, by exact below_⟩
    · have h3 : p = 0 ∧ q = 0 := by simpa [dirOk, h1, h2] using h
      obtain ⟨rfl, rfl⟩ := h3
      clear h
      go_enter Tryz.func35, Tryz.ntmps35
      go_wp2_with (first | (go_at_call 32; refine (within_t _ _ _ _ (by assumption)).mono ?_; rintro e w1 ⟨rfl, rfl⟩) | (go_at_call 32; refine (within_f _ _ _ _ (by assumption)).mono ?_; rintro e w1 ⟨rfl, rfl⟩))
      exact bodyPost_ret (v := .tuple #[frv ⟨0, 0, 0⟩, frv ⟨0, 0, 0⟩, .bool false]) (by simp [results, Tryz.results35, go_sem, *]) rfl ⟨rfl, by exact below_⟩
theorem makeI_low (re im den : Int) (h1 : inB den 1 1000000000000000000 = true) (h2 : inB re (-1000000000000000000) 1000000000000000000 = true) (h3 : inB im (-1000000000000000000) 1000000000000000000 = true) : makeI re im den = lowI re im den := by simp [makeI, h1, h2, h3]
theorem smake_low (re im den : Int) (w : World) (h1 : inB den 1 1000000000000000000 = true) (h2 : inB re (-1000000000000000000) 1000000000000000000 = true) (h3 : inB im (-1000000000000000000) 1000000000000000000 = true) :
    Calls Tryz.prog 118 #[.int .i64 re, .int .i64 im, .int .i64 den] w fun e w' => e = .returned (frb (lowI re im den)) ∧ Below w.heap.size w w' := by
  rw [← makeI_low re im den h1 h2 h3]; exact smake_any re im den w
set_option maxHeartbeats 1000000 in
theorem sdirection_t (p q : Int) (w : World) (h : dirOk p q = true) :
    Calls Tryz.prog 107 #[.int .i64 p, .int .i64 q] w fun e w' => e = .returned (.tuple #[frv (dirC p q), frv (dirS p q), .bool true]) ∧ Below w.heap.size w w' := by
  obtain ⟨⟨b1, b2⟩, ⟨b3, b4⟩, ⟨b5, b6⟩, ⟨b7, b8⟩, ⟨b9, b10⟩, ⟨b11, b12⟩⟩ := dir_bd p q h
  simp only [dirOk, Bool.and_eq_true, Bool.not_eq_true'] at h
  obtain ⟨⟨h1, h2⟩, h3⟩ := h
  unfold dirC dirS
  by_cases hp : p = 0
  · have hq : ¬ q = 0 := by intro e; subst hp; subst e; simp at h3
    clear h3
    subst hp
    simp only [Int.mul_zero, Int.zero_mul, Int.zero_add, Int.zero_sub] at *
    go_enter Tryz.func107, Tryz.ntmps107
    go_wp2_with (first | (go_at_call 100; refine (l6in_t _ _ _ _ (by assumption)).mono ?_; rintro e w1 ⟨rfl, rfl⟩) | (go_at_call 118; (with_reducible refine (smake_low _ _ _ _ (by rw [inB_iff]; omega) (by rw [inB_iff]; omega) (by rw [inB_iff]; omega)).mono ?_); rintro e w1 ⟨rfl, hb⟩; obtain ⟨hc, hf⟩ := bf hb (w.heap.size + 1 + 1) side_; have hs := hb.size; (try simp only [World.size_alloc, World.size_setCell, World.size_drew, World.heap_drewN] at hs); have hl : w.heap.size ≤ w1.heap.size ∧ w.heap.size < w1.heap.size ∧ w.heap.size + 1 < w1.heap.size := ⟨by omega, by omega, by omega⟩; obtain ⟨B, hBe, hBl, hc2, hf2⟩ := bfA hb; (try simp only [World.size_alloc, World.size_setCell, World.size_drew, World.heap_drewN] at hBe); have hB : Below w.heap.size w w1 := bstep (by exact below_) hb side_; clear hs hb))
    go_region
    go_wp2
    all_goals exact bodyPost_ret (by simp [results, Tryz.results107, go_sem, *]) rfl ⟨rfl, by exact below_⟩
  · clear h3
    go_enter Tryz.func107, Tryz.ntmps107
    go_wp2_with (first | (go_at_call 100; refine (l6in_t _ _ _ _ (by assumption)).mono ?_; rintro e w1 ⟨rfl, rfl⟩) | (go_at_call 118; (with_reducible refine (smake_low _ _ _ _ (by rw [inB_iff]; omega) (by rw [inB_iff]; omega) (by rw [inB_iff]; omega)).mono ?_); rintro e w1 ⟨rfl, hb⟩; obtain ⟨hc, hf⟩ := bf hb (w.heap.size + 1 + 1) side_; have hs := hb.size; (try simp only [World.size_alloc, World.size_setCell, World.size_drew, World.heap_drewN] at hs); have hl : w.heap.size ≤ w1.heap.size ∧ w.heap.size < w1.heap.size ∧ w.heap.size + 1 < w1.heap.size := ⟨by omega, by omega, by omega⟩; obtain ⟨B, hBe, hBl, hc2, hf2⟩ := bfA hb; (try simp only [World.size_alloc, World.size_setCell, World.size_drew, World.heap_drewN] at hBe); have hB : Below w.heap.size w w1 := bstep (by exact below_) hb side_; clear hs hb))
    go_region
    go_wp2
    all_goals exact bodyPost_ret (by simp [results, Tryz.results107, go_sem, *]) rfl ⟨rfl, by exact below_⟩
set_option maxHeartbeats 1000000 in
theorem sdirection_f (p q : Int) (w : World) (h : dirOk p q = false) :
    Calls Tryz.prog 107 #[.int .i64 p, .int .i64 q] w fun e w' => e = .returned (.tuple #[frv ⟨0, 0, 0⟩, frv ⟨0, 0, 0⟩, .bool false]) ∧ Below w.heap.size w w' := by
  cases h1 : inB p (-100) 100
  · clear h
    go_enter Tryz.func107, Tryz.ntmps107
    go_wp2_with (first | (go_at_call 100; refine (l6in_t _ _ _ _ (by assumption)).mono ?_; rintro e w1 ⟨rfl, rfl⟩) | (go_at_call 100; refine (l6in_f _ _ _ _ (by assumption)).mono ?_; rintro e w1 ⟨rfl, rfl⟩))
    exact bodyPost_ret (v := .tuple #[frv ⟨0, 0, 0⟩, frv ⟨0, 0, 0⟩, .bool false]) (by simp [results, Tryz.results107, go_sem, *]) rfl ⟨rfl, by exact below_⟩
  · cases h2 : inB q (-100) 100
    · clear h
      go_enter Tryz.func107, Tryz.ntmps107
      go_wp2_with (first | (go_at_call 100; refine (l6in_t _ _ _ _ (by assumption)).mono ?_; rintro e w1 ⟨rfl, rfl⟩) | (go_at_call 100; refine (l6in_f _ _ _ _ (by assumption)).mono ?_; rintro e w1 ⟨rfl, rfl⟩))
      exact bodyPost_ret (v := .tuple #[frv ⟨0, 0, 0⟩, frv ⟨0, 0, 0⟩, .bool false]) (by simp [results, Tryz.results107, go_sem, *]) rfl ⟨rfl, by exact below_⟩
    · have h3 : p = 0 ∧ q = 0 := by simpa [dirOk, h1, h2] using h
      obtain ⟨rfl, rfl⟩ := h3
      clear h
      go_enter Tryz.func107, Tryz.ntmps107
      go_wp2_with (first | (go_at_call 100; refine (l6in_t _ _ _ _ (by assumption)).mono ?_; rintro e w1 ⟨rfl, rfl⟩) | (go_at_call 100; refine (l6in_f _ _ _ _ (by assumption)).mono ?_; rintro e w1 ⟨rfl, rfl⟩))
      exact bodyPost_ret (v := .tuple #[frv ⟨0, 0, 0⟩, frv ⟨0, 0, 0⟩, .bool false]) (by simp [results, Tryz.results107, go_sem, *]) rfl ⟨rfl, by exact below_⟩
end
section
open Go.RowKit
attribute [local go_sem ↓] Go.wp_at_zero Go.wp_at_succ
abbrev Z12 : Mt := ⟨⟨0, 0, 0⟩, ⟨0, 0, 0⟩, ⟨0, 0, 0⟩, ⟨0, 0, 0⟩⟩
theorem m4_eq (a b c d : Option Fr) : gotF (a.isNone || b.isNone || c.isNone || d.isNone) Z12 ⟨a.getD ⟨0, 0, 0⟩, b.getD ⟨0, 0, 0⟩, c.getD ⟨0, 0, 0⟩, d.getD ⟨0, 0, 0⟩⟩ = (m4 a b c d).getD Z12 ∧
    (a.isSome && b.isSome && c.isSome && d.isSome) = (m4 a b c d).isSome := by
  cases a <;> cases b <;> cases c <;> cases d <;> exact ⟨rfl, rfl⟩
set_option maxRecDepth 100000 in
set_option maxHeartbeats 400000 in
theorem got_mat (a : Mt) (bs : Nat) (w : World) (hs : SumEx w bs) :
    Calls Tryz.prog 36 #[.pointer (some ⟨bs, 0, none⟩), mtv a] w fun e w' => ∃ b, SumIs w bs b ∧ e = .returned (.tuple #[mtv (gotF b Z12 a), .bool (!b)]) ∧ Below w.heap.size w w' := by
  obtain ⟨bad, hs⟩ := hs
  suffices Calls Tryz.prog 36 #[.pointer (some ⟨bs, 0, none⟩), mtv a] w fun e w' => e = .returned (.tuple #[mtv (gotF bad Z12 a), .bool (!bad)]) ∧ Below w.heap.size w w' from
    this.mono fun _ _ ⟨h1, h2⟩ => ⟨bad, hs, h1, h2⟩
  have hlt := hs.lt
  have hcs := hs.cell
  have hne : w.heap.size ≠ bs ∧ w.heap.size + 1 ≠ bs ∧ w.heap.size + 1 + 1 ≠ bs := ⟨by omega, by omega, by omega⟩
  cases bad
  · go_enter Tryz.func36, Tryz.ntmps36
    go_wp2
    exact bodyPost_ret (v := .tuple #[mtv a, .bool true]) (by simp [results, Tryz.results36, go_sem, *]) rfl ⟨rfl, by exact below_⟩
  · go_enter Tryz.func36, Tryz.ntmps36
    go_wp2
    exact bodyPost_ret (v := .tuple #[mtv Z12, .bool false]) (by simp [results, Tryz.results36, go_sem, *]) rfl ⟨rfl, by exact below_⟩
set_option maxRecDepth 100000 in
set_option maxHeartbeats 1000000 in
theorem madj_any (m : Mt) (w : World) :
    Calls Tryz.prog 34 #[mtv m] w fun e w' => e = .returned (mtb (madjI m)) ∧ Below w.heap.size w w' := by
  go_enter Tryz.func34, Tryz.ntmps34
  go_wp2
  go_region_held3 (fun w' => w'.cell? ⟨w.heap.size, 0, none⟩ = some (.int .i64 (m.a.re)) ∧ w'.cell? ⟨w.heap.size, 1, none⟩ = some (.int .i64 (m.a.im)) ∧ w'.cell? ⟨w.heap.size, 2, none⟩ = some (.int .i64 (m.a.den)) ∧ w'.cell? ⟨w.heap.size, 3, none⟩ = some (.int .i64 (m.b.re)) ∧ w'.cell? ⟨w.heap.size, 4, none⟩ = some (.int .i64 (m.b.im)) ∧ w'.cell? ⟨w.heap.size, 5, none⟩ = some (.int .i64 (m.b.den)) ∧ w'.cell? ⟨w.heap.size, 6, none⟩ = some (.int .i64 (m.c.re)) ∧ w'.cell? ⟨w.heap.size, 7, none⟩ = some (.int .i64 (m.c.im)) ∧ w'.cell? ⟨w.heap.size, 8, none⟩ = some (.int .i64 (m.c.den)) ∧ w'.cell? ⟨w.heap.size, 9, none⟩ = some (.int .i64 (m.d.re)) ∧ w'.cell? ⟨w.heap.size, 10, none⟩ = some (.int .i64 (m.d.im)) ∧ w'.cell? ⟨w.heap.size, 11, none⟩ = some (.int .i64 (m.d.den))) ((first | go_keep | (simp [go_sem, *]; done))) (first | (go_at_call 41; (with_reducible refine (x_mirror m.a (w.heap.size + 1 + 1) _ (by exact sum_)).mono ?_); rintro e w1 ⟨rfl, hu, hx⟩; have hs1 := hu _ (by exact sum_); clear hu; obtain ⟨hc, hf⟩ := bfxL hx side_; obtain ⟨hc3, hf3⟩ := bfxU hx (w.heap.size + 1 + 1 + 1) side_; have hs2 := hx.size; (try simp only [World.size_alloc, World.size_setCell, World.size_drew, World.heap_drewN] at hs2); have hl : w.heap.size ≤ w1.heap.size ∧ w.heap.size < w1.heap.size ∧ w.heap.size + 1 < w1.heap.size ∧ w.heap.size + 1 + 1 < w1.heap.size := ⟨by omega, by omega, by omega, by omega⟩; have hcs1 := hs1.cell; have hfs1 := hs1.frozen; have hB : Below w.heap.size w w1 := (BelX.step (BelX.of (by exact below_)) hx side_).below side_; clear hs2 hx) | (go_at_call 41; (with_reducible refine (x_mirror m.c (w.heap.size + 1 + 1) _ (by exact sum_)).mono ?_); rintro e w1 ⟨rfl, hu, hx⟩; have hs1 := hu _ (by exact sum_); clear hu; obtain ⟨hc, hf⟩ := bfxL hx side_; obtain ⟨hc3, hf3⟩ := bfxU hx (w.heap.size + 1 + 1 + 1) side_; have hs2 := hx.size; (try simp only [World.size_alloc, World.size_setCell, World.size_drew, World.heap_drewN] at hs2); have hl : w.heap.size ≤ w1.heap.size ∧ w.heap.size < w1.heap.size ∧ w.heap.size + 1 < w1.heap.size ∧ w.heap.size + 1 + 1 < w1.heap.size := ⟨by omega, by omega, by omega, by omega⟩; have hcs1 := hs1.cell; have hfs1 := hs1.frozen; have hB : Below w.heap.size w w1 := (BelX.step (BelX.of (by exact below_)) hx side_).below side_; clear hs2 hx) | (go_at_call 41; (with_reducible refine (x_mirror m.b (w.heap.size + 1 + 1) _ (by exact sum_)).mono ?_); rintro e w1 ⟨rfl, hu, hx⟩; have hs1 := hu _ (by exact sum_); clear hu; obtain ⟨hc, hf⟩ := bfxL hx side_; obtain ⟨hc3, hf3⟩ := bfxU hx (w.heap.size + 1 + 1 + 1) side_; have hs2 := hx.size; (try simp only [World.size_alloc, World.size_setCell, World.size_drew, World.heap_drewN] at hs2); have hl : w.heap.size ≤ w1.heap.size ∧ w.heap.size < w1.heap.size ∧ w.heap.size + 1 < w1.heap.size ∧ w.heap.size + 1 + 1 < w1.heap.size := ⟨by omega, by omega, by omega, by omega⟩; have hcs1 := hs1.cell; have hfs1 := hs1.frozen; have hB : Below w.heap.size w w1 := (BelX.step (BelX.of (by exact below_)) hx side_).below side_; clear hs2 hx) | (go_at_call 41; (with_reducible refine (x_mirror m.d (w.heap.size + 1 + 1) _ (by exact sum_)).mono ?_); rintro e w1 ⟨rfl, hu, hx⟩; have hs1 := hu _ (by exact sum_); clear hu; obtain ⟨hc, hf⟩ := bfxL hx side_; obtain ⟨hc3, hf3⟩ := bfxU hx (w.heap.size + 1 + 1 + 1) side_; have hs2 := hx.size; (try simp only [World.size_alloc, World.size_setCell, World.size_drew, World.heap_drewN] at hs2); have hl : w.heap.size ≤ w1.heap.size ∧ w.heap.size < w1.heap.size ∧ w.heap.size + 1 < w1.heap.size ∧ w.heap.size + 1 + 1 < w1.heap.size := ⟨by omega, by omega, by omega, by omega⟩; have hcs1 := hs1.cell; have hfs1 := hs1.frozen; have hB : Below w.heap.size w w1 := (BelX.step (BelX.of (by exact below_)) hx side_).below side_; clear hs2 hx) | (go_at_call 36; (with_reducible refine (got_mat ⟨_, _, _, _⟩ (w.heap.size + 1 + 1) _ (by exact sum_)).mono ?_); rintro e w1 ⟨b0, hsb, rfl, hb⟩; have hsb2 := Lib.hid hsb; clear hsb; have hq := SumIs.uniq hsb2.out (by exact sum_); clear hsb2; subst hq; obtain ⟨hc, hf⟩ := bf hb (w.heap.size + 1 + 1 + 1) side_; have hs := hb.size; (try simp only [World.size_alloc, World.size_setCell, World.size_drew, World.heap_drewN] at hs); have hl : w.heap.size ≤ w1.heap.size ∧ w.heap.size < w1.heap.size ∧ w.heap.size + 1 < w1.heap.size ∧ w.heap.size + 1 + 1 < w1.heap.size := ⟨by omega, by omega, by omega, by omega⟩; have hB : Below w.heap.size w w1 := bstep (by exact below_) hb side_; clear hs hb))
  go_wp2
  refine bodyPost_ret (v := mtb (madjI m)) (by simp only [mtb, madjI, ← (m4_eq (mirrorI m.a) (mirrorI m.c) (mirrorI m.b) (mirrorI m.d)).1, ← (m4_eq (mirrorI m.a) (mirrorI m.c) (mirrorI m.b) (mirrorI m.d)).2]; simp [results, Tryz.results34, go_sem, *]) rfl ⟨rfl, by exact below_⟩
end
section
open Go.RowKit
attribute [local go_sem ↓] Go.wp_at_zero Go.wp_at_succ
/-- The rotator of a direction. -/
def rotM (p q : Int) : Mt := ⟨dirC p q, ⟨-(dirS p q).re, -(dirS p q).im, (dirS p q).den⟩, dirS p q, dirC p q⟩
def rotI (p q : Int) : Option Mt := if dirOk p q then some (rotM p q) else none
theorem dirS_im (p q : Int) : (dirS p q).im = 0 := by
  unfold dirS lowI
  simp only []
  split
  · simp
  · rfl
theorem dirS_bd (p q : Int) : -2000000000 ≤ (dirS p q).re ∧ (dirS p q).re ≤ 2000000000 := by
  unfold dirS lowI
  simp only []
  split
  · rename_i h
    simp only [Bool.and_eq_true, inB_iff] at h
    exact h.1.1
  · exact ⟨by decide, by decide⟩
set_option maxHeartbeats 1000000 in
theorem opposite_any (a : Fr) (w : World) (h1 : -2000000000 ≤ a.re) (h2 : a.re ≤ 2000000000) (h3 : -2000000000 ≤ a.im) (h4 : a.im ≤ 2000000000) :
    Calls Tryz.prog 73 #[frv a] w fun e w' => e = .returned (frv ⟨-a.re, -a.im, a.den⟩) ∧ Below w.heap.size w w' := by
  go_enter Tryz.func73, Tryz.ntmps73
  go_wp2
  exact bodyPost_ret (v := frv ⟨-a.re, -a.im, a.den⟩) (by simp [results, Tryz.results73, go_sem, *]) rfl ⟨rfl, by exact below_⟩
set_option maxRecDepth 100000 in
set_option maxHeartbeats 1000000 in
theorem rot_any (p q : Int) (w : World) :
    Calls Tryz.prog 31 #[.int .i64 p, .int .i64 q] w fun e w' => e = .returned (mtb (rotI p q)) ∧ Below w.heap.size w w' := by
  obtain ⟨b1, b2⟩ := dirS_bd p q
  have b4 : -2000000000 ≤ (dirS p q).im := by rw [dirS_im]; decide
  have b5 : (dirS p q).im ≤ 2000000000 := by rw [dirS_im]; decide
  cases h : dirOk p q
  · rw [show rotI p q = none by simp [rotI, h]]
    go_enter Tryz.func31, Tryz.ntmps31
    go_wp2_with (first | (go_at_call 35; (with_reducible refine (direction_f p q _ h).mono ?_); rintro e w1 ⟨rfl, hb⟩; obtain ⟨hc, hf⟩ := bf hb (w.heap.size + 1) side_; have hs := hb.size; (try simp only [World.size_alloc, World.size_setCell, World.size_drew, World.heap_drewN] at hs); have hl : w.heap.size ≤ w1.heap.size ∧ w.heap.size < w1.heap.size := ⟨by omega, by omega⟩; have hB : Below w.heap.size w w1 := bstep (by exact below_) hb side_; clear hs hb))
    exact bodyPost_ret (v := mtb none) (by simp [results, Tryz.results31, go_sem, *]) rfl ⟨rfl, by exact below_⟩
  · rw [show rotI p q = some (rotM p q) by simp [rotI, h]]
    go_enter Tryz.func31, Tryz.ntmps31
    go_wp2_with (first | (go_at_call 35; (with_reducible refine (direction_t p q _ h).mono ?_); rintro e w1 ⟨rfl, hb⟩; obtain ⟨hc, hf⟩ := bf hb (w.heap.size + 1) side_; have hs := hb.size; (try simp only [World.size_alloc, World.size_setCell, World.size_drew, World.heap_drewN] at hs); have hl : w.heap.size ≤ w1.heap.size ∧ w.heap.size < w1.heap.size := ⟨by omega, by omega⟩; have hB : Below w.heap.size w w1 := bstep (by exact below_) hb side_; clear hs hb))
    go_region_held3 (fun w' => w'.cell? ⟨w1.heap.size, 0, none⟩ = some (.int .i64 ((dirC p q).re)) ∧ w'.cell? ⟨w1.heap.size, 1, none⟩ = some (.int .i64 ((dirC p q).im)) ∧ w'.cell? ⟨w1.heap.size, 2, none⟩ = some (.int .i64 ((dirC p q).den)) ∧ w'.cell? ⟨w1.heap.size + 1, 0, none⟩ = some (.int .i64 ((dirS p q).re)) ∧ w'.cell? ⟨w1.heap.size + 1, 1, none⟩ = some (.int .i64 ((dirS p q).im)) ∧ w'.cell? ⟨w1.heap.size + 1, 2, none⟩ = some (.int .i64 ((dirS p q).den))) ((first | go_keep | (simp [go_sem, *]; done))) (first | (go_at_call 73; (with_reducible refine (opposite_any (dirS p q) _ b1 b2 b4 b5).mono ?_); rintro e w1 ⟨rfl, hb⟩; obtain ⟨hc, hf⟩ := bf hb (w.heap.size + 1) side_; have hs := hb.size; (try simp only [World.size_alloc, World.size_setCell, World.size_drew, World.heap_drewN] at hs); have hl : w.heap.size ≤ w1.heap.size ∧ w.heap.size < w1.heap.size := ⟨by omega, by omega⟩; obtain ⟨B, hBe, hBl, hc2, hf2⟩ := bfA hb; (try simp only [World.size_alloc, World.size_setCell, World.size_drew, World.heap_drewN] at hBe); have hB : Below w.heap.size w w1 := bstep (by exact below_) hb side_; clear hs hb))
    (try go_wp2)
    exact bodyPost_ret (v := mtb (some (rotM p q))) (by simp [results, Tryz.results31, go_sem, rotM, *]) rfl ⟨rfl, by exact below_⟩
set_option maxRecDepth 100000 in
set_option maxHeartbeats 1000000 in
theorem srot_any (p q : Int) (w : World) :
    Calls Tryz.prog 102 #[.int .i64 p, .int .i64 q] w fun e w' => e = .returned (mtb (rotI p q)) ∧ Below w.heap.size w w' := by
  obtain ⟨b1, b2⟩ := dirS_bd p q
  have b3 := Lib.hid (dirS_im p q)
  cases h : dirOk p q
  · rw [show rotI p q = none by simp [rotI, h]]
    go_enter Tryz.func102, Tryz.ntmps102
    go_wp2_with (first | (go_at_call 107; (with_reducible refine (sdirection_f p q _ h).mono ?_); rintro e w1 ⟨rfl, hb⟩; obtain ⟨hc, hf⟩ := bf hb (w.heap.size + 1) side_; have hs := hb.size; (try simp only [World.size_alloc, World.size_setCell, World.size_drew, World.heap_drewN] at hs); have hl : w.heap.size ≤ w1.heap.size ∧ w.heap.size < w1.heap.size := ⟨by omega, by omega⟩; have hB : Below w.heap.size w w1 := bstep (by exact below_) hb side_; clear hs hb) | (go_at_call 108; (with_reducible refine (four_f ⟨_, _, _⟩ ⟨_, _, _⟩ ⟨_, _, _⟩ ⟨_, _, _⟩ _).mono ?_); rintro e w1 ⟨rfl, hb⟩; obtain ⟨hc, hf⟩ := bf hb (w.heap.size + 1) side_; have hs := hb.size; (try simp only [World.size_alloc, World.size_setCell, World.size_drew, World.heap_drewN] at hs); have hl : w.heap.size ≤ w1.heap.size ∧ w.heap.size < w1.heap.size := ⟨by omega, by omega⟩; obtain ⟨B, hBe, hBl, hc2, hf2⟩ := bfA hb; (try simp only [World.size_alloc, World.size_setCell, World.size_drew, World.heap_drewN] at hBe); have hB : Below w.heap.size w w1 := bstep (by exact below_) hb side_; clear hs hb))
    exact bodyPost_ret (v := mtb none) (by simp [results, Tryz.results102, go_sem, *]) rfl ⟨rfl, by exact below_⟩
  · rw [show rotI p q = some (rotM p q) by simp [rotI, h]]
    go_enter Tryz.func102, Tryz.ntmps102
    go_wp2_with (first | (go_at_call 107; (with_reducible refine (sdirection_t p q _ h).mono ?_); rintro e w1 ⟨rfl, hb⟩; obtain ⟨hc, hf⟩ := bf hb (w.heap.size + 1) side_; have hs := hb.size; (try simp only [World.size_alloc, World.size_setCell, World.size_drew, World.heap_drewN] at hs); have hl : w.heap.size ≤ w1.heap.size ∧ w.heap.size < w1.heap.size := ⟨by omega, by omega⟩; have hB : Below w.heap.size w w1 := bstep (by exact below_) hb side_; clear hs hb) | (go_at_call 108; (with_reducible refine (four_t ⟨_, _, _⟩ ⟨_, _, _⟩ ⟨_, _, _⟩ ⟨_, _, _⟩ _).mono ?_); rintro e w1 ⟨rfl, hb⟩; obtain ⟨hc, hf⟩ := bf hb (w.heap.size + 1) side_; have hs := hb.size; (try simp only [World.size_alloc, World.size_setCell, World.size_drew, World.heap_drewN] at hs); have hl : w.heap.size ≤ w1.heap.size ∧ w.heap.size < w1.heap.size := ⟨by omega, by omega⟩; obtain ⟨B, hBe, hBl, hc2, hf2⟩ := bfA hb; (try simp only [World.size_alloc, World.size_setCell, World.size_drew, World.heap_drewN] at hBe); have hB : Below w.heap.size w w1 := bstep (by exact below_) hb side_; clear hs hb))
    have b3 := b3.out
    exact bodyPost_ret (v := mtb (some (rotM p q))) (by simp [results, Tryz.results102, go_sem, rotM, *]) rfl ⟨rfl, by exact below_⟩
end
end Go.Proofs.YtodhbkinbcemnaaGreatDoor
