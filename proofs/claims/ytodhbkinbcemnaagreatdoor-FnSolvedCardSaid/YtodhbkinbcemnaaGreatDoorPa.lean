/-
  Texts of this claim, joined: Pl; Wa; Ws; Wb; Wc; Wd; Sm; Jn. Nothing is claimed here; the other texts of this claim use it.
-/
import Derived.Below
import Derived.WalkSmall
import Derived.Test.YtodhbkinbcemnaaGreatDoorRows
import Derived.WalkKit
import Derived.WalkSpells
import Derived.WalkLawsBesides
import Derived.Deep.QuietTactic
import Derived.BigQuiet
import Derived.Lib.Hide
import Derived.Deep.RegionHeld3
import Derived.Deep.DrawnRows
namespace Go.Proofs.YtodhbkinbcemnaaGreatDoor
set_option linter.unusedSimpArgs false
set_option linter.unusedVariables false
section
open Go.RowKit

def inB (n lo hi : Int) : Bool := decide (lo ≤ n) && decide (n ≤ hi)
theorem inB_iff {n lo hi : Int} : inB n lo hi = true ↔ lo ≤ n ∧ n ≤ hi := by simp [inB]
def gcdI (a b : Int) : Int := (Nat.gcd a.natAbs b.natAbs : Nat)
def absI (a : Int) : Int := (a.natAbs : Int)
theorem gcdI_nonneg (a b : Int) : 0 ≤ gcdI a b := by unfold gcdI; omega
theorem gcdI_le (a b M : Int) (h1 : -M ≤ a) (h2 : a ≤ M) (h3 : -M ≤ b) (h4 : b ≤ M) : gcdI a b ≤ M := by
  unfold gcdI
  rcases Nat.eq_zero_or_pos a.natAbs with h | h
  · rw [h, Nat.gcd_zero_left]; omega
  · have := Nat.gcd_le_left b.natAbs h; omega
theorem absI_bd (a M : Int) (h1 : -M ≤ a) (h2 : a ≤ M) : 0 ≤ absI a ∧ absI a ≤ M := by unfold absI; omega
theorem gcdI_zero (a : Int) : gcdI a 0 = absI a := by simp [gcdI, absI]
theorem gcdI_step (a b : Int) : gcdI b (a.tmod b) = gcdI a b := by
  unfold gcdI
  rw [Int.natAbs_tmod, Nat.gcd_comm a.natAbs, Nat.gcd_rec b.natAbs a.natAbs, Nat.gcd_comm]
theorem gcdI_pos (a b : Int) (h : 1 ≤ b) : 1 ≤ gcdI a b := by
  unfold gcdI
  have := Nat.gcd_pos_of_pos_right a.natAbs (n := b.natAbs) (by omega)
  omega

/-- An exact fraction: the two parts and the bottom. -/
structure Fr where
  re : Int
  im : Int
  den : Int
  deriving DecidableEq

abbrev frv (a : Fr) : Value := .agg #[.int .i64 a.re, .int .i64 a.im, .int .i64 a.den]
abbrev frb (o : Option Fr) : Value := .tuple #[frv (o.getD ⟨0, 0, 0⟩), .bool o.isSome]

def gcd3 (re im den : Int) : Int := gcdI (gcdI (absI re) (absI im)) den
theorem gcd3_eq (re im den : Int) : gcdI (gcdI den re) im = gcd3 re im den := by
  unfold gcd3 gcdI absI
  simp only [Int.natAbs_natCast]
  rw [Nat.gcd_comm (Nat.gcd re.natAbs im.natAbs) den.natAbs, Nat.gcd_assoc]
theorem gcd3_pos (re im den : Int) (h : 1 ≤ den) : 1 ≤ gcd3 re im den := gcdI_pos _ _ h
theorem gcd3_dvd (re im den : Int) : gcd3 re im den ∣ re ∧ gcd3 re im den ∣ im ∧ gcd3 re im den ∣ den := by
  unfold gcd3 gcdI absI
  simp only [Int.natAbs_natCast]
  have h := Nat.gcd_dvd (Nat.gcd re.natAbs im.natAbs) den.natAbs
  have k := Nat.gcd_dvd re.natAbs im.natAbs
  exact ⟨Int.ofNat_dvd_left.2 (Nat.dvd_trans h.1 k.1), Int.ofNat_dvd_left.2 (Nat.dvd_trans h.1 k.2), Int.ofNat_dvd_left.2 h.2⟩
theorem gcd3_mul (c re im den : Int) (h : 0 ≤ c) : gcd3 (c * re) (c * im) (c * den) = c * gcd3 re im den := by
  obtain ⟨c, rfl⟩ := Int.eq_ofNat_of_zero_le h
  unfold gcd3 gcdI absI
  simp only [Int.natAbs_natCast, Int.natAbs_mul, Nat.gcd_mul_left, Int.natCast_mul]

def fvalid (a : Fr) : Bool := inB a.re (-2000000000) 2000000000 && inB a.im (-2000000000) 2000000000 && inB a.den 1 2000000000 && (gcd3 a.re a.im a.den == 1)
theorem fvalid_bd (a : Fr) (h : fvalid a = true) : (-2000000000 ≤ a.re ∧ a.re ≤ 2000000000) ∧ (-2000000000 ≤ a.im ∧ a.im ≤ 2000000000) ∧ (1 ≤ a.den ∧ a.den ≤ 2000000000) := by
  simp [fvalid, inB] at h; omega
theorem fvalid_gcd (a : Fr) (h : fvalid a = true) : gcd3 a.re a.im a.den = 1 := by
  simp [fvalid] at h; exact h.2

/-- Lowest terms, where they are small enough. -/
def lowI (re im den : Int) : Option Fr :=
  let g := gcd3 re im den
  if inB (re.tdiv g) (-2000000000) 2000000000 && inB (im.tdiv g) (-2000000000) 2000000000 && !decide (2000000000 < den / g) then some ⟨re.tdiv g, im.tdiv g, den / g⟩ else none

theorem lowI_yes {re im den : Int} (h1 : inB (re.tdiv (gcdI (gcdI (absI re) (absI im)) den)) (-2000000000) 2000000000 = true) (h2 : inB (im.tdiv (gcdI (gcdI (absI re) (absI im)) den)) (-2000000000) 2000000000 = true) (h3 : den / gcdI (gcdI (absI re) (absI im)) den ≤ 2000000000) :
    lowI re im den = some ⟨re.tdiv (gcdI (gcdI (absI re) (absI im)) den), im.tdiv (gcdI (gcdI (absI re) (absI im)) den), den / gcdI (gcdI (absI re) (absI im)) den⟩ := by
  unfold lowI gcd3
  simp [h1, h2, h3]
theorem lowI_no1 {re im den : Int} (h1 : ¬ inB (re.tdiv (gcdI (gcdI (absI re) (absI im)) den)) (-2000000000) 2000000000 = true) : lowI re im den = none := by
  unfold lowI gcd3
  simp [h1]
theorem lowI_no2 {re im den : Int} (h1 : ¬ inB (im.tdiv (gcdI (gcdI (absI re) (absI im)) den)) (-2000000000) 2000000000 = true) : lowI re im den = none := by
  unfold lowI gcd3
  simp [h1]
theorem lowI_no3 {re im den : Int} (h3 : 2000000000 < den / gcdI (gcdI (absI re) (absI im)) den) : lowI re im den = none := by
  unfold lowI gcd3
  simp [h3]
theorem low_parts (re im den : Int) (h : 1 ≤ den) : ∃ x y z : Int, re = gcd3 re im den * x ∧ im = gcd3 re im den * y ∧ den = gcd3 re im den * z ∧ re.tdiv (gcd3 re im den) = x ∧ im.tdiv (gcd3 re im den) = y ∧ den / gcd3 re im den = z ∧ gcd3 x y z = 1 ∧ 1 ≤ z := by
  obtain ⟨⟨x, hx⟩, ⟨y, hy⟩, ⟨z, hz⟩⟩ := gcd3_dvd re im den
  have hg := gcd3_pos re im den h
  have k : gcd3 x y z = 1 := by
    have e := gcd3_mul (gcd3 re im den) x y z (by omega)
    rw [← hx, ← hy, ← hz] at e
    have : gcd3 re im den * gcd3 x y z = gcd3 re im den * 1 := by omega
    exact Int.eq_of_mul_eq_mul_left (by omega) this
  have hz1 : 1 ≤ z := by
    rcases Int.lt_or_le 0 z with h' | h'
    · omega
    · have := Int.mul_le_mul_of_nonneg_left h' (show 0 ≤ gcd3 re im den by omega); omega
  refine ⟨x, y, z, hx, hy, hz, ?_, ?_, ?_, k, hz1⟩
  · conv => lhs; arg 1; rw [hx]
    exact Int.mul_tdiv_cancel_left _ (by omega)
  · conv => lhs; arg 1; rw [hy]
    exact Int.mul_tdiv_cancel_left _ (by omega)
  · conv => lhs; arg 1; rw [hz]
    exact Int.mul_ediv_cancel_left _ (by omega)
theorem low_valid (re im den : Int) (h : 1 ≤ den) : fvalid ⟨re.tdiv (gcd3 re im den), im.tdiv (gcd3 re im den), den / gcd3 re im den⟩ =
    (inB (re.tdiv (gcd3 re im den)) (-2000000000) 2000000000 && inB (im.tdiv (gcd3 re im den)) (-2000000000) 2000000000 && !decide (2000000000 < den / gcd3 re im den)) := by
  obtain ⟨x, y, z, _, _, _, e1, e2, e3, k, hz⟩ := low_parts re im den h
  rw [e1, e2, e3]
  rw [show (!decide (2000000000 < z)) = decide (z ≤ 2000000000) by rw [Bool.eq_iff_iff]; simp]
  simp [fvalid, k, inB, hz]
theorem lowI_valid {re im den : Int} (h : 1 ≤ den) {f : Fr} (hf : lowI re im den = some f) : fvalid f = true := by
  unfold lowI at hf
  simp only [] at hf
  split at hf
  · rename_i hc
    injection hf with hf
    subst hf
    rw [low_valid re im den h]; exact hc
  · cases hf
theorem lowI_scale (c re im den : Int) (h : 1 ≤ c) (hd : 1 ≤ den) : lowI (c * re) (c * im) (c * den) = lowI re im den := by
  have hg := gcd3_pos re im den hd
  unfold lowI
  simp only [gcd3_mul c re im den (by omega)]
  rw [Int.mul_tdiv_mul_of_pos _ _ (by omega), Int.mul_tdiv_mul_of_pos _ _ (by omega), Int.mul_ediv_mul_of_pos _ _ (by omega)]

theorem mulbd (a b : Int) (h1 : -2000000000 ≤ a) (h2 : a ≤ 2000000000) (h3 : -2000000000 ≤ b) (h4 : b ≤ 2000000000) : -4000000000000000000 ≤ a * b ∧ a * b ≤ 4000000000000000000 := by
  have h : (a * b).natAbs ≤ 2000000000 * 2000000000 := by
    rw [Int.natAbs_mul]
    exact Nat.mul_le_mul (by omega) (by omega)
  omega
theorem mulbd1 (a b : Int) (h1 : 1 ≤ a) (h2 : a ≤ 2000000000) (h3 : 1 ≤ b) (h4 : b ≤ 2000000000) : 1 ≤ a * b ∧ a * b ≤ 4000000000000000000 := by
  have := mulbd a b (by omega) h2 (by omega) h4
  have k := Int.mul_le_mul h1 h3 (by omega) (by omega)
  omega

def makeI (re im den : Int) : Option Fr :=
  if inB den 1 1000000000000000000 && inB re (-1000000000000000000) 1000000000000000000 && inB im (-1000000000000000000) 1000000000000000000 then lowI re im den else none
def addI (a b : Fr) : Option Fr := if fvalid a && fvalid b then lowI (a.re * b.den + b.re * a.den) (a.im * b.den + b.im * a.den) (a.den * b.den) else none
def lessI (a b : Fr) : Option Fr := if fvalid a && fvalid b then lowI (a.re * b.den - b.re * a.den) (a.im * b.den - b.im * a.den) (a.den * b.den) else none
def timesI (a b : Fr) : Option Fr := if fvalid a && fvalid b then lowI (a.re * b.re - a.im * b.im) (a.re * b.im + a.im * b.re) (a.den * b.den) else none
def mirrorI (a : Fr) : Option Fr := if fvalid a then some ⟨a.re, -a.im, a.den⟩ else none
def powerI (a : Fr) : Option Fr := if fvalid a then lowI (a.re * a.re + a.im * a.im) 0 (a.den * a.den) else none
def turnI (b : Fr) : Option Fr := lowI (b.den * b.re) (-b.den * b.im) (b.re * b.re + b.im * b.im)
def isZero (b : Fr) : Bool := b.re == 0 && b.im == 0
def overI (a b : Fr) : Option Fr := if fvalid a && fvalid b && !isZero b then (turnI b).bind (timesI a) else none
def realOk (a : Fr) : Bool := fvalid a && (a.im == 0)
theorem fvalid_zero (b : Fr) (h : fvalid b = true) : (b.re == 0 && (b.im == 0 && b.den == 1)) = isZero b := by
  have hg := fvalid_gcd b h
  have hb := fvalid_bd b h
  unfold isZero
  by_cases h1 : b.re = 0
  · by_cases h2 : b.im = 0
    · rw [h1, h2] at hg
      simp [gcd3, gcdI, absI] at hg
      have : b.den = 1 := by omega
      simp [h1, h2, this]
    · have : (b.im == 0) = false := by simpa using h2
      simp [this]
  · have : (b.re == 0) = false := by simpa using h1
    simp [this]
theorem norm_pos (b : Fr) (h : isZero b = false) : 1 ≤ b.re * b.re + b.im * b.im := by
  have sq : ∀ x : Int, 0 ≤ x * x := fun x => by rw [← Int.natAbs_mul_self]; omega
  have sq1 : ∀ x : Int, x ≠ 0 → 1 ≤ x * x := fun x hx => by
    have h0 := sq x
    have : x * x ≠ 0 := fun e => hx (by simpa using Int.mul_eq_zero.1 e)
    omega
  have a1 := sq b.re
  have a2 := sq b.im
  by_cases h1 : b.re = 0
  · by_cases h2 : b.im = 0
    · simp [isZero, h1, h2] at h
    · have := sq1 _ h2; omega
  · have := sq1 _ h1; omega

/-- A cell behind a store into it: no premise. -/
theorem cellSetSame (w1 : World) (g o : Nat) (v : Value) : (w1.setCell ⟨g, o, none⟩ v).cell? ⟨g, o, none⟩ = (w1.cell? ⟨g, o, none⟩).map (fun _ => v) := by
  cases h : w1.cell? ⟨g, o, none⟩ with
  | some u => rw [World.cell?_setCell_same _ _ _ h]; rfl
  | none =>
    unfold World.cell? at h ⊢
    simp [World.setCell, Array.getElem?_modify] at h ⊢
    cases hb : w1.heap[g]? with
    | none => simp
    | some ob => cases ob with
      | cells c e f => simp [hb] at h ⊢; exact h
      | _ => simp
attribute [go_sem] cellSetSame
/-- An older cell behind a new block: the premise is an inequality of addresses, which the walk decides by linear arithmetic. -/
theorem cellAllocNe (w : World) (o : Obj) (n i : Nat) (h : (⟨n, i, none⟩ : Addr) ≠ ⟨w.heap.size, i, none⟩) : (w.alloc o).cell? ⟨n, i, none⟩ = w.cell? ⟨n, i, none⟩ :=
  World.cell?_alloc_old w o _ (fun e => h (by simpa using e))
theorem frozenAllocNe (w : World) (o : Obj) (n i : Nat) (h : (⟨n, i, none⟩ : Addr) ≠ ⟨w.heap.size, i, none⟩) : (w.alloc o).frozen? ⟨n, i, none⟩ = w.frozen? ⟨n, i, none⟩ :=
  World.frozen?_alloc_old w o _ (fun e => h (by simpa using e))
attribute [go_sem] cellAllocNe frozenAllocNe
/-- What holds of cells behind a call; the premise (that the cell is an old one) is an equation of addresses, which the walk decides by linear arithmetic. -/
theorem bfA {W w1 : World} (hb : Below W.heap.size W w1) : ∃ B, B = W.heap.size ∧ B ≤ w1.heap.size ∧ (∀ b o, (⟨min (b + 1) B, 0, none⟩ : Addr) = ⟨b + 1, 0, none⟩ → w1.cell? ⟨b, o, none⟩ = W.cell? ⟨b, o, none⟩) ∧ (∀ b o, (⟨min (b + 1) B, 0, none⟩ : Addr) = ⟨b + 1, 0, none⟩ → w1.frozen? ⟨b, o, none⟩ = W.frozen? ⟨b, o, none⟩) := by
  refine ⟨_, rfl, hb.size, fun b o h => hb.cell (p := ⟨b, o, none⟩) ?_, fun b o h => hb.frozen (p := ⟨b, o, none⟩) ?_⟩
  all_goals
    have := congrArg Addr.block h
    simp only at this
    show b < W.heap.size
    omega

/-- What holds of cells behind a call that makes memory only. -/
theorem bf {W w1 : World} (hb : Below W.heap.size W w1) (B : Nat) (hB : B ≤ W.heap.size) : (∀ b o, b < B → w1.cell? ⟨b, o, none⟩ = W.cell? ⟨b, o, none⟩) ∧ (∀ b o, b < B → w1.frozen? ⟨b, o, none⟩ = W.frozen? ⟨b, o, none⟩) :=
  ⟨fun b o h => hb.cell (p := ⟨b, o, none⟩) (Nat.lt_of_lt_of_le h hB), fun b o h => hb.frozen (p := ⟨b, o, none⟩) (Nat.lt_of_lt_of_le h hB)⟩
theorem sizeUp {W w1 : World} (h : W.heap.size ≤ w1.heap.size) : ∀ X, X < W.heap.size → X < w1.heap.size := fun _ hX => Nat.lt_of_lt_of_le hX h
theorem bstep {B : Nat} {w W w1 : World} (h : Below B w W) (hb : Below W.heap.size W w1) (hB : B ≤ W.heap.size) : Below B w w1 := h.trans (hb.mono hB)
end
section
open Go.RowKit
/-! Small facts that are found by search: their default arguments say how. -/
theorem side_ {p : Prop} (h : p := by first | omega | (simp; done) | (simp; omega)) : p := h
theorem below_ {p : Prop} (h : p := by (repeat' (first | (with_reducible exact Below.refl _ _) | (with_reducible assumption) | (with_reducible refine Below.setCell ?_ (by first | omega | (simp; done) | (simp; omega)) _) | (with_reducible refine Below.alloc ?_ (by first | omega | (simp; done) | (simp; omega)) _) | (with_reducible refine below_drewN ?_ _) | (with_reducible refine Below.drew ?_)))) : p := h
theorem sum_ {p : Prop} (h : p := by (repeat' (first | (with_reducible assumption) | (with_reducible exact SumIs.new' (by simp)) | (with_reducible apply SumIs.alloc) | (with_reducible apply SumIs.setEx) | (with_reducible exact SumEx.of ‹_›) | (with_reducible exact SumEx.of (SumIs.new' (by simp))) | (with_reducible apply SumEx.alloc) | (with_reducible apply SumIs.far) | (with_reducible apply SumEx.far) | (with_reducible apply SumIs.drewN) | (with_reducible apply SumIs.drew) | (with_reducible apply SumEx.drewN) | (with_reducible apply SumEx.drew) | omega | (simp; done) | (simp; omega)))) : p := h
theorem belx_ {p : Prop} (h : p := by (repeat' (first | (with_reducible exact BelX.refl _ _ _) | (with_reducible assumption) | (with_reducible exact BelX.of ‹_›) | (with_reducible refine BelX.setCell ?_ (by first | omega | (simp; done) | (simp; omega)) _) | (with_reducible refine BelX.setSum ?_ _) | (with_reducible refine BelX.alloc ?_ (by first | omega | (simp; done) | (simp; omega)) _) | (with_reducible refine BelX.drewN ?_ _) | (with_reducible refine BelX.drew ?_)))) : p := h
theorem rd_ {p : Prop} (h : p := by (repeat' (first | (with_reducible assumption) | (with_reducible exact RdIs.mono ‹RdIs _ _ _› (by omega)) | (with_reducible apply RdIs.alloc) | (with_reducible exact RdEx.of ‹RdIs _ _ _› (by omega)) | (with_reducible apply RdEx.alloc) | (with_reducible apply RdIs.far) | (with_reducible apply RdEx.far) | (with_reducible apply RdIs.drewN) | (with_reducible apply RdIs.drew) | (with_reducible apply RdEx.drewN) | (with_reducible apply RdEx.drew) | omega | (simp; done) | (simp; omega)))) : p := h
set_option maxHeartbeats 400000 in
theorem within_any (n lo hi : Int) (w : World) :
    Calls Tryz.prog 32 #[.int .i64 n, .int .i64 lo, .int .i64 hi] w fun e w' => e = .returned (.bool (inB n lo hi)) ∧ w' = w := by
  go_enter Tryz.func32, Tryz.ntmps32
  go_wp2
  all_goals go_ret
  all_goals exact ⟨by simp [inB, *]; try omega, rfl⟩
set_option maxHeartbeats 400000 in
theorem size_any (n : Int) (w : World) (h : -9223372036854775807 ≤ n) (h' : n ≤ 9223372036854775807) :
    Calls Tryz.prog 115 #[.int .i64 n] w fun e w' => e = .returned (.int .i64 (absI n)) ∧ w' = w := by
  go_enter Tryz.func115, Tryz.ntmps115
  go_wp2
  all_goals go_ret
  all_goals exact ⟨by simp [absI]; omega, rfl⟩
set_option maxHeartbeats 400000 in
theorem divisor_any (a b : Int) (w : World) (ha0 : 0 ≤ a) (ha : a ≤ 9223372036854775807) (hb0 : 0 ≤ b) (hb : b ≤ 9223372036854775807) :
    Calls Tryz.prog 114 #[.int .i64 a, .int .i64 b] w fun e w' => e = .returned (.int .i64 (gcdI a b)) ∧ ∃ n, w' = w.drewN n := by
  obtain ⟨a, rfl⟩ := Int.eq_ofNat_of_zero_le ha0
  obtain ⟨b, rfl⟩ := Int.eq_ofNat_of_zero_le hb0
  go_enter Tryz.func114, Tryz.ntmps114
  go_wp2
  go_loopw [0, 1] (fun x y wr => ∃ c d : Nat, c ≤ 9223372036854775807 ∧ d ≤ 9223372036854775807 ∧ x = .int .i64 c ∧ y = .int .i64 d ∧ Hid (Nat.gcd c d = Nat.gcd a b ∧ ∃ n, wr = w.drewN n)) (fun _ y _ => (intOf y).toNat)
  case atStart => exact ⟨a, b, by omega, by omega, rfl, rfl, rfl, 0, rfl⟩
  case round =>
    obtain ⟨c, d, hc, hd, rfl, rfl, hg⟩ := hrel
    by_cases h0 : d = 0
    · subst h0
      go_wp2
      go_ret
      obtain ⟨hg, hn⟩ := hg.out
      exact ⟨by simp [gcdI]; rw [← hg]; simp, hn⟩
    · have h1 : 0 < d := by omega
      go_wp2
      go_quiet (fail)
      go_wp2
      go_roundw
      case rel =>
        obtain ⟨hg, n, hn⟩ := hg.out
        refine ⟨d, c % d, hd, by have := Nat.mod_lt c h1; omega, rfl, rfl, ?_, n + nq, ?_⟩
        · rw [← hg, Nat.gcd_comm c d, Nat.gcd_rec d c, Nat.gcd_comm]
        · rw [hn, World.drewN_drewN]
      case measure => simp [intOf]; have := Int.emod_lt_of_pos (c : Int) (b := d) (by omega); omega
theorem within_t (n lo hi : Int) (w : World) (h : inB n lo hi = true) :
    Calls Tryz.prog 32 #[.int .i64 n, .int .i64 lo, .int .i64 hi] w fun e w' => e = .returned (.bool true) ∧ w' = w := by
  rw [← h]; exact within_any n lo hi w
theorem within_f (n lo hi : Int) (w : World) (h : inB n lo hi = false) :
    Calls Tryz.prog 32 #[.int .i64 n, .int .i64 lo, .int .i64 hi] w fun e w' => e = .returned (.bool false) ∧ w' = w := by
  rw [← h]; exact within_any n lo hi w
set_option maxHeartbeats 400000 in
theorem fvalid_1 (x y z : Int) (w : World) (hx : inB x (-2000000000) 2000000000 = false) :
    Calls Tryz.prog 78 #[frv ⟨x, y, z⟩] w fun e w' => e = .returned (.bool (fvalid ⟨x, y, z⟩)) ∧ Below w.heap.size w w' := by
  go_enter Tryz.func78, Tryz.ntmps78
  go_wp2
  go_quiet ((first | (go_at_call 32; exact Calls.quiet_of_same (within_t _ _ _ _ (by assumption))) | (go_at_call 32; exact Calls.quiet_of_same (within_f _ _ _ _ (by assumption)))))
  go_wp2
  go_ret
  exact ⟨by simp [fvalid, hx], below_drewN ((Below.refl _ _).alloc (Nat.le_refl _) _) _⟩
set_option maxHeartbeats 400000 in
theorem fvalid_2 (x y z : Int) (w : World) (hx : inB x (-2000000000) 2000000000 = true) (hy : inB y (-2000000000) 2000000000 = false) :
    Calls Tryz.prog 78 #[frv ⟨x, y, z⟩] w fun e w' => e = .returned (.bool (fvalid ⟨x, y, z⟩)) ∧ Below w.heap.size w w' := by
  go_enter Tryz.func78, Tryz.ntmps78
  go_wp2
  go_quiet ((first | (go_at_call 32; exact Calls.quiet_of_same (within_t _ _ _ _ (by assumption))) | (go_at_call 32; exact Calls.quiet_of_same (within_f _ _ _ _ (by assumption)))))
  go_wp2
  go_ret
  exact ⟨by simp [fvalid, hx, hy], below_drewN ((Below.refl _ _).alloc (Nat.le_refl _) _) _⟩
set_option maxHeartbeats 400000 in
theorem fvalid_3 (x y z : Int) (w : World) (hx : inB x (-2000000000) 2000000000 = true) (hy : inB y (-2000000000) 2000000000 = true) (hz : inB z 1 2000000000 = false) :
    Calls Tryz.prog 78 #[frv ⟨x, y, z⟩] w fun e w' => e = .returned (.bool (fvalid ⟨x, y, z⟩)) ∧ Below w.heap.size w w' := by
  go_enter Tryz.func78, Tryz.ntmps78
  go_wp2
  go_quiet ((first | (go_at_call 32; exact Calls.quiet_of_same (within_t _ _ _ _ (by assumption))) | (go_at_call 32; exact Calls.quiet_of_same (within_f _ _ _ _ (by assumption)))))
  go_wp2
  go_ret
  exact ⟨by simp [fvalid, hx, hy, hz], below_drewN ((Below.refl _ _).alloc (Nat.le_refl _) _) _⟩
set_option maxHeartbeats 400000 in
theorem fvalid_4 (x y z : Int) (w : World) (hx : inB x (-2000000000) 2000000000 = true) (hy : inB y (-2000000000) 2000000000 = true) (hz : inB z 1 2000000000 = true) :
    Calls Tryz.prog 78 #[frv ⟨x, y, z⟩] w fun e w' => e = .returned (.bool (fvalid ⟨x, y, z⟩)) ∧ Below w.heap.size w w' := by
  have hx' := hx; have hy' := hy; have hz' := hz
  rw [inB_iff] at hx' hy' hz'
  obtain ⟨hx1, hx2⟩ := hx'; obtain ⟨hy1, hy2⟩ := hy'; obtain ⟨hz1, hz2⟩ := hz'
  obtain ⟨ax1, ax2⟩ := absI_bd x 2000000000 (by omega) (by omega)
  obtain ⟨ay1, ay2⟩ := absI_bd y 2000000000 (by omega) (by omega)
  have g1 := gcdI_nonneg (absI x) (absI y)
  have g2 := gcdI_le (absI x) (absI y) 2000000000 (by omega) (by omega) (by omega) (by omega)
  go_enter Tryz.func78, Tryz.ntmps78
  go_wp2
  go_quiet ((first | (go_at_call 32; exact Calls.quiet_of_same (within_t _ _ _ _ (by assumption))) | (go_at_call 115; exact Calls.quiet_of_same (size_any _ _ (by omega) (by omega))) | (go_at_call 114; exact Calls.quiet_of (divisor_any _ _ _ (by omega) (by omega) (by omega) (by omega)))))
  go_wp2
  go_ret
  exact ⟨by simp [fvalid, hx, hy, hz, gcd3], below_drewN ((Below.refl _ _).alloc (Nat.le_refl _) _) _⟩
theorem fvalid_any (a : Fr) (w : World) :
    Calls Tryz.prog 78 #[frv a] w fun e w' => e = .returned (.bool (fvalid a)) ∧ Below w.heap.size w w' := by
  obtain ⟨x, y, z⟩ := a
  cases hx : inB x (-2000000000) 2000000000
  · exact fvalid_1 x y z w hx
  · cases hy : inB y (-2000000000) 2000000000
    · exact fvalid_2 x y z w hx hy
    · cases hz : inB z 1 2000000000
      · exact fvalid_3 x y z w hx hy hz
      · exact fvalid_4 x y z w hx hy hz
theorem fvalid_t (a : Fr) (w : World) (h : fvalid a = true) : Calls Tryz.prog 78 #[frv a] w fun e w' => e = .returned (.bool true) ∧ Below w.heap.size w w' := by
  rw [← h]; exact fvalid_any a w
theorem fvalid_f (a : Fr) (w : World) (h : fvalid a = false) : Calls Tryz.prog 78 #[frv a] w fun e w' => e = .returned (.bool false) ∧ Below w.heap.size w w' := by
  rw [← h]; exact fvalid_any a w
set_option maxHeartbeats 1000000 in
theorem lowest_any (re im den : Int) (w : World) (h1 : -9000000000000000000 ≤ re) (h2 : re ≤ 9000000000000000000) (h3 : -9000000000000000000 ≤ im) (h4 : im ≤ 9000000000000000000) (h5 : 1 ≤ den) (h6 : den ≤ 9000000000000000000) :
    Calls Tryz.prog 75 #[.int .i64 re, .int .i64 im, .int .i64 den] w fun e w' => e = .returned (frb (lowI re im den)) ∧ Below w.heap.size w w' := by
  obtain ⟨ax1, ax2⟩ := absI_bd re 9000000000000000000 (by omega) (by omega)
  obtain ⟨ay1, ay2⟩ := absI_bd im 9000000000000000000 (by omega) (by omega)
  have g1 := gcdI_nonneg (absI re) (absI im)
  have g2 := gcdI_le (absI re) (absI im) 9000000000000000000 (by omega) (by omega) (by omega) (by omega)
  have g3 : 1 ≤ gcdI (gcdI (absI re) (absI im)) den := gcd3_pos re im den h5
  go_enter Tryz.func75, Tryz.ntmps75
  go_wp2_with (first | (go_at_call 115; refine (size_any _ _ (by omega) (by omega)).mono ?_; rintro e w1 ⟨rfl, rfl⟩) | (go_at_call 114; refine (divisor_any _ _ _ (by omega) (by omega) (by omega) (by omega)).mono ?_; rintro e w1 ⟨rfl, n1, rfl⟩))
  go_region
  go_wp2_with (first | (go_at_call 32; refine (within_any _ _ _ _).mono ?_; rintro e w1 ⟨rfl, rfl⟩))
  all_goals refine bodyPost_ret (v := frb (lowI re im den)) (by first | rw [lowI_yes ‹_› ‹_› ‹_›] | rw [lowI_no1 ‹_›] | rw [lowI_no2 ‹_›] | rw [lowI_no3 ‹_›]
                                                                simp [results, Tryz.results75, go_sem]) rfl ⟨rfl, ?_⟩
  all_goals exact below_
end
section
open Go.RowKit
set_option maxHeartbeats 400000 in
theorem l6in_any (n lo hi : Int) (w : World) :
    Calls Tryz.prog 100 #[.int .i64 n, .int .i64 lo, .int .i64 hi] w fun e w' => e = .returned (.bool (inB n lo hi)) ∧ w' = w := by
  go_enter Tryz.func100, Tryz.ntmps100
  go_wp2
  all_goals go_ret
  all_goals exact ⟨by simp [inB, *]; try omega, rfl⟩
theorem l6in_t (n lo hi : Int) (w : World) (h : inB n lo hi = true) :
    Calls Tryz.prog 100 #[.int .i64 n, .int .i64 lo, .int .i64 hi] w fun e w' => e = .returned (.bool true) ∧ w' = w := by
  rw [← h]; exact l6in_any n lo hi w
theorem l6in_f (n lo hi : Int) (w : World) (h : inB n lo hi = false) :
    Calls Tryz.prog 100 #[.int .i64 n, .int .i64 lo, .int .i64 hi] w fun e w' => e = .returned (.bool false) ∧ w' = w := by
  rw [← h]; exact l6in_any n lo hi w
set_option maxHeartbeats 400000 in
theorem sin_any (n : Int) (w : World) :
    Calls Tryz.prog 99 #[.int .i64 n] w fun e w' => e = .returned (.bool (inB n (-2000000000) 2000000000)) ∧ w' = w := by
  go_enter Tryz.func99, Tryz.ntmps99
  go_wp2_with (go_at_call 100; refine (l6in_any _ _ _ _).mono ?_; rintro e w1 ⟨rfl, rfl⟩)
  go_ret
  exact ⟨rfl, rfl⟩
theorem sin_t (n : Int) (w : World) (h : inB n (-2000000000) 2000000000 = true) :
    Calls Tryz.prog 99 #[.int .i64 n] w fun e w' => e = .returned (.bool true) ∧ w' = w := by
  rw [← h]; exact sin_any n w
theorem sin_f (n : Int) (w : World) (h : inB n (-2000000000) 2000000000 = false) :
    Calls Tryz.prog 99 #[.int .i64 n] w fun e w' => e = .returned (.bool false) ∧ w' = w := by
  rw [← h]; exact sin_any n w
set_option maxHeartbeats 400000 in
theorem sgcd_any (a b : Int) (w : World) (ha0 : -9223372036854775807 ≤ a) (ha : a ≤ 9223372036854775807) (hb0 : -9223372036854775807 ≤ b) (hb : b ≤ 9223372036854775807) :
    Calls Tryz.prog 101 #[.int .i64 a, .int .i64 b] w fun e w' => e = .returned (.int .i64 (gcdI a b)) ∧ w' = w := by
  go_enter Tryz.func101, Tryz.ntmps101
  go_wp2
  go_loop [0, 1, 5] (fun x y _ => ∃ c d : Int, -9223372036854775807 ≤ c ∧ c ≤ 9223372036854775807 ∧ -9223372036854775807 ≤ d ∧ d ≤ 9223372036854775807 ∧ x = .int .i64 c ∧ y = .int .i64 d ∧ Hid (gcdI c d = gcdI a b)) (fun _ y _ => (intOf y).natAbs)
  case atStart => exact ⟨a, b, ha0, ha, hb0, hb, rfl, rfl, rfl⟩
  case round =>
    obtain ⟨c, d, hc0, hc, hd0, hd, rfl, rfl, hg⟩ := hrel
    by_cases h0 : d = 0
    · subst h0
      go_wp2
      all_goals go_ret
      all_goals exact ⟨by rw [← hg.out, gcdI_zero]; simp [absI]; omega, rfl⟩
    · have t1 : -9223372036854775807 ≤ c.tmod d := by
        have := Int.natAbs_tmod c d
        have k := Nat.mod_le c.natAbs d.natAbs
        omega
      have t2 : c.tmod d ≤ 9223372036854775807 := by
        have := Int.natAbs_tmod c d
        have k := Nat.mod_le c.natAbs d.natAbs
        omega
      have t3 : (c.tmod d).natAbs < d.natAbs := by rw [Int.natAbs_tmod]; exact Nat.mod_lt _ (by omega)
      have H3 := Lib.hid t3
      clear t3
      go_wp2
      go_round
      case rel => exact ⟨d, c.tmod d, hd0, hd, t1, t2, rfl, rfl, (gcdI_step c d).trans hg.out⟩
      case measure => simpa [intOf] using H3.out
set_option maxHeartbeats 400000 in
theorem sfvalid_1 (x y z : Int) (w : World) (hx : inB x (-2000000000) 2000000000 = false) :
    Calls Tryz.prog 65 #[frv ⟨x, y, z⟩] w fun e w' => e = .returned (.bool (fvalid ⟨x, y, z⟩)) ∧ Below w.heap.size w w' := by
  go_enter Tryz.func65, Tryz.ntmps65
  go_wp2
  go_quiet ((first | (go_at_call 99; exact Calls.quiet_of_same (sin_t _ _ (by assumption))) | (go_at_call 99; exact Calls.quiet_of_same (sin_f _ _ (by assumption))) | (go_at_call 100; exact Calls.quiet_of_same (l6in_t _ _ _ _ (by assumption))) | (go_at_call 100; exact Calls.quiet_of_same (l6in_f _ _ _ _ (by assumption)))))
  go_wp2
  go_ret
  exact ⟨by simp [fvalid, hx], below_drewN ((Below.refl _ _).alloc (Nat.le_refl _) _) _⟩
set_option maxHeartbeats 400000 in
theorem sfvalid_2 (x y z : Int) (w : World) (hx : inB x (-2000000000) 2000000000 = true) (hy : inB y (-2000000000) 2000000000 = false) :
    Calls Tryz.prog 65 #[frv ⟨x, y, z⟩] w fun e w' => e = .returned (.bool (fvalid ⟨x, y, z⟩)) ∧ Below w.heap.size w w' := by
  go_enter Tryz.func65, Tryz.ntmps65
  go_wp2
  go_quiet ((first | (go_at_call 99; exact Calls.quiet_of_same (sin_t _ _ (by assumption))) | (go_at_call 99; exact Calls.quiet_of_same (sin_f _ _ (by assumption))) | (go_at_call 100; exact Calls.quiet_of_same (l6in_t _ _ _ _ (by assumption))) | (go_at_call 100; exact Calls.quiet_of_same (l6in_f _ _ _ _ (by assumption)))))
  go_wp2
  go_ret
  exact ⟨by simp [fvalid, hx, hy], below_drewN ((Below.refl _ _).alloc (Nat.le_refl _) _) _⟩
set_option maxHeartbeats 400000 in
theorem sfvalid_3 (x y z : Int) (w : World) (hx : inB x (-2000000000) 2000000000 = true) (hy : inB y (-2000000000) 2000000000 = true) (hz : inB z 1 2000000000 = false) :
    Calls Tryz.prog 65 #[frv ⟨x, y, z⟩] w fun e w' => e = .returned (.bool (fvalid ⟨x, y, z⟩)) ∧ Below w.heap.size w w' := by
  go_enter Tryz.func65, Tryz.ntmps65
  go_wp2
  go_quiet ((first | (go_at_call 99; exact Calls.quiet_of_same (sin_t _ _ (by assumption))) | (go_at_call 99; exact Calls.quiet_of_same (sin_f _ _ (by assumption))) | (go_at_call 100; exact Calls.quiet_of_same (l6in_t _ _ _ _ (by assumption))) | (go_at_call 100; exact Calls.quiet_of_same (l6in_f _ _ _ _ (by assumption)))))
  go_wp2
  go_ret
  exact ⟨by simp [fvalid, hx, hy, hz], below_drewN ((Below.refl _ _).alloc (Nat.le_refl _) _) _⟩
set_option maxHeartbeats 400000 in
theorem sfvalid_4 (x y z : Int) (w : World) (hx : inB x (-2000000000) 2000000000 = true) (hy : inB y (-2000000000) 2000000000 = true) (hz : inB z 1 2000000000 = true) :
    Calls Tryz.prog 65 #[frv ⟨x, y, z⟩] w fun e w' => e = .returned (.bool (fvalid ⟨x, y, z⟩)) ∧ Below w.heap.size w w' := by
  have hx' := hx; have hy' := hy; have hz' := hz
  rw [inB_iff] at hx' hy' hz'
  obtain ⟨hx1, hx2⟩ := hx'; obtain ⟨hy1, hy2⟩ := hy'; obtain ⟨hz1, hz2⟩ := hz'
  have g1 := gcdI_nonneg z x
  have g2 := gcdI_le z x 2000000000 (by omega) (by omega) (by omega) (by omega)
  go_enter Tryz.func65, Tryz.ntmps65
  go_wp2
  go_quiet ((first | (go_at_call 99; exact Calls.quiet_of_same (sin_t _ _ (by assumption))) | (go_at_call 99; exact Calls.quiet_of_same (sin_f _ _ (by assumption))) | (go_at_call 100; exact Calls.quiet_of_same (l6in_t _ _ _ _ (by assumption))) | (go_at_call 100; exact Calls.quiet_of_same (l6in_f _ _ _ _ (by assumption))) | (go_at_call 101; exact Calls.quiet_of_same (sgcd_any _ _ _ (by omega) (by omega) (by omega) (by omega)))))
  go_wp2
  go_ret
  exact ⟨by simp [fvalid, hx, hy, hz, gcd3_eq], below_drewN ((Below.refl _ _).alloc (Nat.le_refl _) _) _⟩
theorem sfvalid_any (a : Fr) (w : World) :
    Calls Tryz.prog 65 #[frv a] w fun e w' => e = .returned (.bool (fvalid a)) ∧ Below w.heap.size w w' := by
  obtain ⟨x, y, z⟩ := a
  cases hx : inB x (-2000000000) 2000000000
  · exact sfvalid_1 x y z w hx
  · cases hy : inB y (-2000000000) 2000000000
    · exact sfvalid_2 x y z w hx hy
    · cases hz : inB z 1 2000000000
      · exact sfvalid_3 x y z w hx hy hz
      · exact sfvalid_4 x y z w hx hy hz
theorem sfvalid_t (a : Fr) (w : World) (h : fvalid a = true) : Calls Tryz.prog 65 #[frv a] w fun e w' => e = .returned (.bool true) ∧ Below w.heap.size w w' := by
  rw [← h]; exact sfvalid_any a w
theorem sfvalid_f (a : Fr) (w : World) (h : fvalid a = false) : Calls Tryz.prog 65 #[frv a] w fun e w' => e = .returned (.bool false) ∧ Below w.heap.size w w' := by
  rw [← h]; exact sfvalid_any a w
set_option maxHeartbeats 1000000 in
theorem slow_any (re im den : Int) (w : World) (h1 : -9000000000000000000 ≤ re) (h2 : re ≤ 9000000000000000000) (h3 : -9000000000000000000 ≤ im) (h4 : im ≤ 9000000000000000000) (h5 : 1 ≤ den) (h6 : den ≤ 9000000000000000000) :
    Calls Tryz.prog 90 #[.int .i64 re, .int .i64 im, .int .i64 den] w fun e w' => e = .returned (frb (lowI re im den)) ∧ Below w.heap.size w w' := by
  have g1 := gcdI_nonneg den re
  have g2 := gcdI_le den re 9000000000000000000 (by omega) (by omega) (by omega) (by omega)
  have g3 : 1 ≤ gcdI (gcdI den re) im := by rw [gcd3_eq]; exact gcd3_pos re im den h5
  cases hv : fvalid ⟨re.tdiv (gcdI (gcdI den re) im), im.tdiv (gcdI (gcdI den re) im), den / gcdI (gcdI den re) im⟩
  · have e : lowI re im den = none := by
      rw [gcd3_eq, low_valid re im den h5] at hv
      unfold lowI; simp only [hv]; rfl
    rw [e]; clear e
    go_enter Tryz.func90, Tryz.ntmps90
    go_wp2_with (first | (go_at_call 101; refine (sgcd_any _ _ _ (by omega) (by omega) (by omega) (by omega)).mono ?_; rintro e w1 ⟨rfl, rfl⟩))
    go_region
    go_wp2_with (first | (go_at_call 65; (with_reducible refine (sfvalid_f _ _ hv).mono ?_); rintro e w1 ⟨rfl, hb⟩; obtain ⟨hc, hf⟩ := bf hb (w.heap.size + 1 + 1) side_; have hs := hb.size; (try simp only [World.size_alloc, World.size_setCell, World.size_drew, World.heap_drewN] at hs); have hl : w.heap.size ≤ w1.heap.size ∧ w.heap.size < w1.heap.size ∧ w.heap.size + 1 < w1.heap.size := ⟨by omega, by omega, by omega⟩; have hB : Below w.heap.size w w1 := bstep (by exact below_) hb side_; clear hs hb))
    exact bodyPost_ret (v := frb none) (by simp [results, Tryz.results90, go_sem, *]) rfl ⟨rfl, by exact below_⟩
  · have e : lowI re im den = some ⟨re.tdiv (gcdI (gcdI den re) im), im.tdiv (gcdI (gcdI den re) im), den / gcdI (gcdI den re) im⟩ := by
      rw [gcd3_eq] at hv ⊢
      rw [low_valid re im den h5] at hv
      unfold lowI; simp only [hv, if_true]
    rw [e]; clear e
    go_enter Tryz.func90, Tryz.ntmps90
    go_wp2_with (first | (go_at_call 101; refine (sgcd_any _ _ _ (by omega) (by omega) (by omega) (by omega)).mono ?_; rintro e w1 ⟨rfl, rfl⟩))
    go_region
    go_wp2_with (first | (go_at_call 65; (with_reducible refine (sfvalid_t _ _ hv).mono ?_); rintro e w1 ⟨rfl, hb⟩; obtain ⟨hc, hf⟩ := bf hb (w.heap.size + 1 + 1) side_; have hs := hb.size; (try simp only [World.size_alloc, World.size_setCell, World.size_drew, World.heap_drewN] at hs); have hl : w.heap.size ≤ w1.heap.size ∧ w.heap.size < w1.heap.size ∧ w.heap.size + 1 < w1.heap.size := ⟨by omega, by omega, by omega⟩; have hB : Below w.heap.size w w1 := bstep (by exact below_) hb side_; clear hs hb))
    exact bodyPost_ret (v := frb (some ⟨re.tdiv (gcdI (gcdI den re) im), im.tdiv (gcdI (gcdI den re) im), den / gcdI (gcdI den re) im⟩)) (by simp [results, Tryz.results90, go_sem, *]) rfl ⟨rfl, by exact below_⟩
end
section
open Go.RowKit
set_option maxHeartbeats 1000000 in
theorem times_any (a b : Fr) (w : World) :
    Calls Tryz.prog 77 #[frv a, frv b] w fun e w' => e = .returned (frb (timesI a b)) ∧ Below w.heap.size w w' := by
  cases ha : fvalid a
  · have e : timesI a b = none := by simp [timesI, ha]
    rw [e]; clear e
    go_enter Tryz.func77, Tryz.ntmps77
    go_wp2_with (first | (go_at_call 78; (with_reducible refine (fvalid_f _ _ (by assumption)).mono ?_); rintro e w1 ⟨rfl, hb⟩; obtain ⟨hc, hf⟩ := bf hb (w.heap.size + 1 + 1 + 1) side_; have hs := hb.size; (try simp only [World.size_alloc, World.size_setCell, World.size_drew, World.heap_drewN] at hs); have hl : w.heap.size ≤ w1.heap.size ∧ w.heap.size < w1.heap.size ∧ w.heap.size + 1 < w1.heap.size ∧ w.heap.size + 1 + 1 < w1.heap.size := ⟨by omega, by omega, by omega, by omega⟩; have hB : Below w.heap.size w w1 := bstep (by exact below_) hb side_; clear hs hb))
    exact bodyPost_ret (v := frb none) (by simp [results, Tryz.results77, go_sem, *]) rfl ⟨rfl, by exact below_⟩
  cases hb : fvalid b
  · have e : timesI a b = none := by simp [timesI, ha, hb]
    rw [e]; clear e
    go_enter Tryz.func77, Tryz.ntmps77
    go_wp2_with (first | (go_at_call 78; (with_reducible refine (fvalid_t _ _ (by assumption)).mono ?_); rintro e w1 ⟨rfl, hb⟩; obtain ⟨hc, hf⟩ := bf hb (w.heap.size + 1 + 1 + 1) side_; have hs := hb.size; (try simp only [World.size_alloc, World.size_setCell, World.size_drew, World.heap_drewN] at hs); have hl : w.heap.size ≤ w1.heap.size ∧ w.heap.size < w1.heap.size ∧ w.heap.size + 1 < w1.heap.size ∧ w.heap.size + 1 + 1 < w1.heap.size := ⟨by omega, by omega, by omega, by omega⟩; have hB : Below w.heap.size w w1 := bstep (by exact below_) hb side_; clear hs hb) | (go_at_call 78; (with_reducible refine (fvalid_f _ _ (by assumption)).mono ?_); rintro e w1 ⟨rfl, hb⟩; obtain ⟨hc, hf⟩ := bf hb (w.heap.size + 1 + 1 + 1) side_; have hs := hb.size; (try simp only [World.size_alloc, World.size_setCell, World.size_drew, World.heap_drewN] at hs); have hl : w.heap.size ≤ w1.heap.size ∧ w.heap.size < w1.heap.size ∧ w.heap.size + 1 < w1.heap.size ∧ w.heap.size + 1 + 1 < w1.heap.size := ⟨by omega, by omega, by omega, by omega⟩; have hB : Below w.heap.size w w1 := bstep (by exact below_) hb side_; clear hs hb))
    exact bodyPost_ret (v := frb none) (by simp [results, Tryz.results77, go_sem, *]) rfl ⟨rfl, by exact below_⟩
  obtain ⟨⟨a1, a2⟩, ⟨a3, a4⟩, ⟨a5, a6⟩⟩ := fvalid_bd a ha
  obtain ⟨⟨b1, b2⟩, ⟨b3, b4⟩, ⟨b5, b6⟩⟩ := fvalid_bd b hb
  obtain ⟨m1, m2⟩ := mulbd (a.re) (b.re) (by omega) (by omega) (by omega) (by omega)
  obtain ⟨m3, m4⟩ := mulbd (a.im) (b.im) (by omega) (by omega) (by omega) (by omega)
  obtain ⟨m5, m6⟩ := mulbd (a.re) (b.im) (by omega) (by omega) (by omega) (by omega)
  obtain ⟨m7, m8⟩ := mulbd (a.im) (b.re) (by omega) (by omega) (by omega) (by omega)
  obtain ⟨m9, m10⟩ := mulbd1 (a.den) (b.den) (by omega) (by omega) (by omega) (by omega)
  clear a1 a2 a3 a4 a5 a6 b1 b2 b3 b4 b5 b6
  have e : timesI a b = lowI (a.re * b.re - a.im * b.im) (a.re * b.im + a.im * b.re) (a.den * b.den) := by simp [timesI, ha, hb]
  rw [e]; clear e
  go_enter Tryz.func77, Tryz.ntmps77
  go_wp2_with (first | (go_at_call 78; (with_reducible refine (fvalid_t _ _ (by assumption)).mono ?_); rintro e w1 ⟨rfl, hb⟩; obtain ⟨hc, hf⟩ := bf hb (w.heap.size + 1 + 1 + 1) side_; have hs := hb.size; (try simp only [World.size_alloc, World.size_setCell, World.size_drew, World.heap_drewN] at hs); have hl : w.heap.size ≤ w1.heap.size ∧ w.heap.size < w1.heap.size ∧ w.heap.size + 1 < w1.heap.size ∧ w.heap.size + 1 + 1 < w1.heap.size := ⟨by omega, by omega, by omega, by omega⟩; have hB : Below w.heap.size w w1 := bstep (by exact below_) hb side_; clear hs hb) | (go_at_call 75; (with_reducible refine (lowest_any (a.re * b.re - a.im * b.im) (a.re * b.im + a.im * b.re) (a.den * b.den) _ (by omega) (by omega) (by omega) (by omega) (by omega) (by omega)).mono ?_); rintro e w1 ⟨rfl, hb⟩; obtain ⟨hc, hf⟩ := bf hb (w.heap.size + 1 + 1 + 1) side_; have hs := hb.size; (try simp only [World.size_alloc, World.size_setCell, World.size_drew, World.heap_drewN] at hs); have hl : w.heap.size ≤ w1.heap.size ∧ w.heap.size < w1.heap.size ∧ w.heap.size + 1 < w1.heap.size ∧ w.heap.size + 1 + 1 < w1.heap.size := ⟨by omega, by omega, by omega, by omega⟩; have hB : Below w.heap.size w w1 := bstep (by exact below_) hb side_; clear hs hb))
  exact bodyPost_ret (v := frb (lowI (a.re * b.re - a.im * b.im) (a.re * b.im + a.im * b.re) (a.den * b.den))) (by simp [results, Tryz.results77, go_sem, *]) rfl ⟨rfl, by exact below_⟩
set_option maxHeartbeats 1000000 in
theorem add_any (a b : Fr) (w : World) :
    Calls Tryz.prog 82 #[frv a, frv b] w fun e w' => e = .returned (frb (addI a b)) ∧ Below w.heap.size w w' := by
  cases ha : fvalid a
  · have e : addI a b = none := by simp [addI, ha]
    rw [e]; clear e
    go_enter Tryz.func82, Tryz.ntmps82
    go_wp2_with (first | (go_at_call 78; (with_reducible refine (fvalid_f _ _ (by assumption)).mono ?_); rintro e w1 ⟨rfl, hb⟩; obtain ⟨hc, hf⟩ := bf hb (w.heap.size + 1 + 1 + 1) side_; have hs := hb.size; (try simp only [World.size_alloc, World.size_setCell, World.size_drew, World.heap_drewN] at hs); have hl : w.heap.size ≤ w1.heap.size ∧ w.heap.size < w1.heap.size ∧ w.heap.size + 1 < w1.heap.size ∧ w.heap.size + 1 + 1 < w1.heap.size := ⟨by omega, by omega, by omega, by omega⟩; have hB : Below w.heap.size w w1 := bstep (by exact below_) hb side_; clear hs hb))
    exact bodyPost_ret (v := frb none) (by simp [results, Tryz.results82, go_sem, *]) rfl ⟨rfl, by exact below_⟩
  cases hb : fvalid b
  · have e : addI a b = none := by simp [addI, ha, hb]
    rw [e]; clear e
    go_enter Tryz.func82, Tryz.ntmps82
    go_wp2_with (first | (go_at_call 78; (with_reducible refine (fvalid_t _ _ (by assumption)).mono ?_); rintro e w1 ⟨rfl, hb⟩; obtain ⟨hc, hf⟩ := bf hb (w.heap.size + 1 + 1 + 1) side_; have hs := hb.size; (try simp only [World.size_alloc, World.size_setCell, World.size_drew, World.heap_drewN] at hs); have hl : w.heap.size ≤ w1.heap.size ∧ w.heap.size < w1.heap.size ∧ w.heap.size + 1 < w1.heap.size ∧ w.heap.size + 1 + 1 < w1.heap.size := ⟨by omega, by omega, by omega, by omega⟩; have hB : Below w.heap.size w w1 := bstep (by exact below_) hb side_; clear hs hb) | (go_at_call 78; (with_reducible refine (fvalid_f _ _ (by assumption)).mono ?_); rintro e w1 ⟨rfl, hb⟩; obtain ⟨hc, hf⟩ := bf hb (w.heap.size + 1 + 1 + 1) side_; have hs := hb.size; (try simp only [World.size_alloc, World.size_setCell, World.size_drew, World.heap_drewN] at hs); have hl : w.heap.size ≤ w1.heap.size ∧ w.heap.size < w1.heap.size ∧ w.heap.size + 1 < w1.heap.size ∧ w.heap.size + 1 + 1 < w1.heap.size := ⟨by omega, by omega, by omega, by omega⟩; have hB : Below w.heap.size w w1 := bstep (by exact below_) hb side_; clear hs hb))
    exact bodyPost_ret (v := frb none) (by simp [results, Tryz.results82, go_sem, *]) rfl ⟨rfl, by exact below_⟩
  obtain ⟨⟨a1, a2⟩, ⟨a3, a4⟩, ⟨a5, a6⟩⟩ := fvalid_bd a ha
  obtain ⟨⟨b1, b2⟩, ⟨b3, b4⟩, ⟨b5, b6⟩⟩ := fvalid_bd b hb
  obtain ⟨m1, m2⟩ := mulbd (a.re) (b.den) (by omega) (by omega) (by omega) (by omega)
  obtain ⟨m3, m4⟩ := mulbd (b.re) (a.den) (by omega) (by omega) (by omega) (by omega)
  obtain ⟨m5, m6⟩ := mulbd (a.im) (b.den) (by omega) (by omega) (by omega) (by omega)
  obtain ⟨m7, m8⟩ := mulbd (b.im) (a.den) (by omega) (by omega) (by omega) (by omega)
  obtain ⟨m9, m10⟩ := mulbd1 (a.den) (b.den) (by omega) (by omega) (by omega) (by omega)
  clear a1 a2 a3 a4 a5 a6 b1 b2 b3 b4 b5 b6
  have e : addI a b = lowI (a.re * b.den + b.re * a.den) (a.im * b.den + b.im * a.den) (a.den * b.den) := by simp [addI, ha, hb]
  rw [e]; clear e
  go_enter Tryz.func82, Tryz.ntmps82
  go_wp2_with (first | (go_at_call 78; (with_reducible refine (fvalid_t _ _ (by assumption)).mono ?_); rintro e w1 ⟨rfl, hb⟩; obtain ⟨hc, hf⟩ := bf hb (w.heap.size + 1 + 1 + 1) side_; have hs := hb.size; (try simp only [World.size_alloc, World.size_setCell, World.size_drew, World.heap_drewN] at hs); have hl : w.heap.size ≤ w1.heap.size ∧ w.heap.size < w1.heap.size ∧ w.heap.size + 1 < w1.heap.size ∧ w.heap.size + 1 + 1 < w1.heap.size := ⟨by omega, by omega, by omega, by omega⟩; have hB : Below w.heap.size w w1 := bstep (by exact below_) hb side_; clear hs hb) | (go_at_call 75; (with_reducible refine (lowest_any (a.re * b.den + b.re * a.den) (a.im * b.den + b.im * a.den) (a.den * b.den) _ (by omega) (by omega) (by omega) (by omega) (by omega) (by omega)).mono ?_); rintro e w1 ⟨rfl, hb⟩; obtain ⟨hc, hf⟩ := bf hb (w.heap.size + 1 + 1 + 1) side_; have hs := hb.size; (try simp only [World.size_alloc, World.size_setCell, World.size_drew, World.heap_drewN] at hs); have hl : w.heap.size ≤ w1.heap.size ∧ w.heap.size < w1.heap.size ∧ w.heap.size + 1 < w1.heap.size ∧ w.heap.size + 1 + 1 < w1.heap.size := ⟨by omega, by omega, by omega, by omega⟩; have hB : Below w.heap.size w w1 := bstep (by exact below_) hb side_; clear hs hb))
  exact bodyPost_ret (v := frb (lowI (a.re * b.den + b.re * a.den) (a.im * b.den + b.im * a.den) (a.den * b.den))) (by simp [results, Tryz.results82, go_sem, *]) rfl ⟨rfl, by exact below_⟩
set_option maxHeartbeats 1000000 in
theorem less_any (a b : Fr) (w : World) :
    Calls Tryz.prog 83 #[frv a, frv b] w fun e w' => e = .returned (frb (lessI a b)) ∧ Below w.heap.size w w' := by
  cases ha : fvalid a
  · have e : lessI a b = none := by simp [lessI, ha]
    rw [e]; clear e
    go_enter Tryz.func83, Tryz.ntmps83
    go_wp2_with (first | (go_at_call 78; (with_reducible refine (fvalid_f _ _ (by assumption)).mono ?_); rintro e w1 ⟨rfl, hb⟩; obtain ⟨hc, hf⟩ := bf hb (w.heap.size + 1 + 1 + 1) side_; have hs := hb.size; (try simp only [World.size_alloc, World.size_setCell, World.size_drew, World.heap_drewN] at hs); have hl : w.heap.size ≤ w1.heap.size ∧ w.heap.size < w1.heap.size ∧ w.heap.size + 1 < w1.heap.size ∧ w.heap.size + 1 + 1 < w1.heap.size := ⟨by omega, by omega, by omega, by omega⟩; have hB : Below w.heap.size w w1 := bstep (by exact below_) hb side_; clear hs hb))
    exact bodyPost_ret (v := frb none) (by simp [results, Tryz.results83, go_sem, *]) rfl ⟨rfl, by exact below_⟩
  cases hb : fvalid b
  · have e : lessI a b = none := by simp [lessI, ha, hb]
    rw [e]; clear e
    go_enter Tryz.func83, Tryz.ntmps83
    go_wp2_with (first | (go_at_call 78; (with_reducible refine (fvalid_t _ _ (by assumption)).mono ?_); rintro e w1 ⟨rfl, hb⟩; obtain ⟨hc, hf⟩ := bf hb (w.heap.size + 1 + 1 + 1) side_; have hs := hb.size; (try simp only [World.size_alloc, World.size_setCell, World.size_drew, World.heap_drewN] at hs); have hl : w.heap.size ≤ w1.heap.size ∧ w.heap.size < w1.heap.size ∧ w.heap.size + 1 < w1.heap.size ∧ w.heap.size + 1 + 1 < w1.heap.size := ⟨by omega, by omega, by omega, by omega⟩; have hB : Below w.heap.size w w1 := bstep (by exact below_) hb side_; clear hs hb) | (go_at_call 78; (with_reducible refine (fvalid_f _ _ (by assumption)).mono ?_); rintro e w1 ⟨rfl, hb⟩; obtain ⟨hc, hf⟩ := bf hb (w.heap.size + 1 + 1 + 1) side_; have hs := hb.size; (try simp only [World.size_alloc, World.size_setCell, World.size_drew, World.heap_drewN] at hs); have hl : w.heap.size ≤ w1.heap.size ∧ w.heap.size < w1.heap.size ∧ w.heap.size + 1 < w1.heap.size ∧ w.heap.size + 1 + 1 < w1.heap.size := ⟨by omega, by omega, by omega, by omega⟩; have hB : Below w.heap.size w w1 := bstep (by exact below_) hb side_; clear hs hb))
    exact bodyPost_ret (v := frb none) (by simp [results, Tryz.results83, go_sem, *]) rfl ⟨rfl, by exact below_⟩
  obtain ⟨⟨a1, a2⟩, ⟨a3, a4⟩, ⟨a5, a6⟩⟩ := fvalid_bd a ha
  obtain ⟨⟨b1, b2⟩, ⟨b3, b4⟩, ⟨b5, b6⟩⟩ := fvalid_bd b hb
  obtain ⟨m1, m2⟩ := mulbd (a.re) (b.den) (by omega) (by omega) (by omega) (by omega)
  obtain ⟨m3, m4⟩ := mulbd (b.re) (a.den) (by omega) (by omega) (by omega) (by omega)
  obtain ⟨m5, m6⟩ := mulbd (a.im) (b.den) (by omega) (by omega) (by omega) (by omega)
  obtain ⟨m7, m8⟩ := mulbd (b.im) (a.den) (by omega) (by omega) (by omega) (by omega)
  obtain ⟨m9, m10⟩ := mulbd1 (a.den) (b.den) (by omega) (by omega) (by omega) (by omega)
  clear a1 a2 a3 a4 a5 a6 b1 b2 b3 b4 b5 b6
  have e : lessI a b = lowI (a.re * b.den - b.re * a.den) (a.im * b.den - b.im * a.den) (a.den * b.den) := by simp [lessI, ha, hb]
  rw [e]; clear e
  go_enter Tryz.func83, Tryz.ntmps83
  go_wp2_with (first | (go_at_call 78; (with_reducible refine (fvalid_t _ _ (by assumption)).mono ?_); rintro e w1 ⟨rfl, hb⟩; obtain ⟨hc, hf⟩ := bf hb (w.heap.size + 1 + 1 + 1) side_; have hs := hb.size; (try simp only [World.size_alloc, World.size_setCell, World.size_drew, World.heap_drewN] at hs); have hl : w.heap.size ≤ w1.heap.size ∧ w.heap.size < w1.heap.size ∧ w.heap.size + 1 < w1.heap.size ∧ w.heap.size + 1 + 1 < w1.heap.size := ⟨by omega, by omega, by omega, by omega⟩; have hB : Below w.heap.size w w1 := bstep (by exact below_) hb side_; clear hs hb) | (go_at_call 75; (with_reducible refine (lowest_any (a.re * b.den - b.re * a.den) (a.im * b.den - b.im * a.den) (a.den * b.den) _ (by omega) (by omega) (by omega) (by omega) (by omega) (by omega)).mono ?_); rintro e w1 ⟨rfl, hb⟩; obtain ⟨hc, hf⟩ := bf hb (w.heap.size + 1 + 1 + 1) side_; have hs := hb.size; (try simp only [World.size_alloc, World.size_setCell, World.size_drew, World.heap_drewN] at hs); have hl : w.heap.size ≤ w1.heap.size ∧ w.heap.size < w1.heap.size ∧ w.heap.size + 1 < w1.heap.size ∧ w.heap.size + 1 + 1 < w1.heap.size := ⟨by omega, by omega, by omega, by omega⟩; have hB : Below w.heap.size w w1 := bstep (by exact below_) hb side_; clear hs hb))
  exact bodyPost_ret (v := frb (lowI (a.re * b.den - b.re * a.den) (a.im * b.den - b.im * a.den) (a.den * b.den))) (by simp [results, Tryz.results83, go_sem, *]) rfl ⟨rfl, by exact below_⟩
set_option maxHeartbeats 1000000 in
theorem stimes_any (a b : Fr) (w : World) :
    Calls Tryz.prog 71 #[frv a, frv b] w fun e w' => e = .returned (frb (timesI a b)) ∧ Below w.heap.size w w' := by
  cases ha : fvalid a
  · have e : timesI a b = none := by simp [timesI, ha]
    rw [e]; clear e
    go_enter Tryz.func71, Tryz.ntmps71
    go_wp2_with (first | (go_at_call 65; (with_reducible refine (sfvalid_f _ _ (by assumption)).mono ?_); rintro e w1 ⟨rfl, hb⟩; obtain ⟨hc, hf⟩ := bf hb (w.heap.size + 1 + 1 + 1) side_; have hs := hb.size; (try simp only [World.size_alloc, World.size_setCell, World.size_drew, World.heap_drewN] at hs); have hl : w.heap.size ≤ w1.heap.size ∧ w.heap.size < w1.heap.size ∧ w.heap.size + 1 < w1.heap.size ∧ w.heap.size + 1 + 1 < w1.heap.size := ⟨by omega, by omega, by omega, by omega⟩; have hB : Below w.heap.size w w1 := bstep (by exact below_) hb side_; clear hs hb))
    exact bodyPost_ret (v := frb none) (by simp [results, Tryz.results71, go_sem, *]) rfl ⟨rfl, by exact below_⟩
  cases hb : fvalid b
  · have e : timesI a b = none := by simp [timesI, ha, hb]
    rw [e]; clear e
    go_enter Tryz.func71, Tryz.ntmps71
    go_wp2_with (first | (go_at_call 65; (with_reducible refine (sfvalid_t _ _ (by assumption)).mono ?_); rintro e w1 ⟨rfl, hb⟩; obtain ⟨hc, hf⟩ := bf hb (w.heap.size + 1 + 1 + 1) side_; have hs := hb.size; (try simp only [World.size_alloc, World.size_setCell, World.size_drew, World.heap_drewN] at hs); have hl : w.heap.size ≤ w1.heap.size ∧ w.heap.size < w1.heap.size ∧ w.heap.size + 1 < w1.heap.size ∧ w.heap.size + 1 + 1 < w1.heap.size := ⟨by omega, by omega, by omega, by omega⟩; have hB : Below w.heap.size w w1 := bstep (by exact below_) hb side_; clear hs hb) | (go_at_call 65; (with_reducible refine (sfvalid_f _ _ (by assumption)).mono ?_); rintro e w1 ⟨rfl, hb⟩; obtain ⟨hc, hf⟩ := bf hb (w.heap.size + 1 + 1 + 1) side_; have hs := hb.size; (try simp only [World.size_alloc, World.size_setCell, World.size_drew, World.heap_drewN] at hs); have hl : w.heap.size ≤ w1.heap.size ∧ w.heap.size < w1.heap.size ∧ w.heap.size + 1 < w1.heap.size ∧ w.heap.size + 1 + 1 < w1.heap.size := ⟨by omega, by omega, by omega, by omega⟩; have hB : Below w.heap.size w w1 := bstep (by exact below_) hb side_; clear hs hb))
    exact bodyPost_ret (v := frb none) (by simp [results, Tryz.results71, go_sem, *]) rfl ⟨rfl, by exact below_⟩
  obtain ⟨⟨a1, a2⟩, ⟨a3, a4⟩, ⟨a5, a6⟩⟩ := fvalid_bd a ha
  obtain ⟨⟨b1, b2⟩, ⟨b3, b4⟩, ⟨b5, b6⟩⟩ := fvalid_bd b hb
  obtain ⟨m1, m2⟩ := mulbd (a.re) (b.re) (by omega) (by omega) (by omega) (by omega)
  obtain ⟨m3, m4⟩ := mulbd (a.im) (b.im) (by omega) (by omega) (by omega) (by omega)
  obtain ⟨m5, m6⟩ := mulbd (a.re) (b.im) (by omega) (by omega) (by omega) (by omega)
  obtain ⟨m7, m8⟩ := mulbd (a.im) (b.re) (by omega) (by omega) (by omega) (by omega)
  obtain ⟨m9, m10⟩ := mulbd1 (a.den) (b.den) (by omega) (by omega) (by omega) (by omega)
  clear a1 a2 a3 a4 a5 a6 b1 b2 b3 b4 b5 b6
  have e : timesI a b = lowI (a.re * b.re - a.im * b.im) (a.re * b.im + a.im * b.re) (a.den * b.den) := by simp [timesI, ha, hb]
  rw [e]; clear e
  go_enter Tryz.func71, Tryz.ntmps71
  go_wp2_with (first | (go_at_call 65; (with_reducible refine (sfvalid_t _ _ (by assumption)).mono ?_); rintro e w1 ⟨rfl, hb⟩; obtain ⟨hc, hf⟩ := bf hb (w.heap.size + 1 + 1 + 1) side_; have hs := hb.size; (try simp only [World.size_alloc, World.size_setCell, World.size_drew, World.heap_drewN] at hs); have hl : w.heap.size ≤ w1.heap.size ∧ w.heap.size < w1.heap.size ∧ w.heap.size + 1 < w1.heap.size ∧ w.heap.size + 1 + 1 < w1.heap.size := ⟨by omega, by omega, by omega, by omega⟩; have hB : Below w.heap.size w w1 := bstep (by exact below_) hb side_; clear hs hb) | (go_at_call 90; (with_reducible refine (slow_any (a.re * b.re - a.im * b.im) (a.re * b.im + a.im * b.re) (a.den * b.den) _ (by omega) (by omega) (by omega) (by omega) (by omega) (by omega)).mono ?_); rintro e w1 ⟨rfl, hb⟩; obtain ⟨hc, hf⟩ := bf hb (w.heap.size + 1 + 1 + 1) side_; have hs := hb.size; (try simp only [World.size_alloc, World.size_setCell, World.size_drew, World.heap_drewN] at hs); have hl : w.heap.size ≤ w1.heap.size ∧ w.heap.size < w1.heap.size ∧ w.heap.size + 1 < w1.heap.size ∧ w.heap.size + 1 + 1 < w1.heap.size := ⟨by omega, by omega, by omega, by omega⟩; have hB : Below w.heap.size w w1 := bstep (by exact below_) hb side_; clear hs hb))
  exact bodyPost_ret (v := frb (lowI (a.re * b.re - a.im * b.im) (a.re * b.im + a.im * b.re) (a.den * b.den))) (by simp [results, Tryz.results71, go_sem, *]) rfl ⟨rfl, by exact below_⟩
end
section
open Go.RowKit
abbrev IsFr (w : World) (g o : Nat) (a : Fr) : Prop := w.cell? ⟨g, o, none⟩ = some (.int .i64 a.re) ∧ w.cell? ⟨g, o + 1, none⟩ = some (.int .i64 a.im) ∧ w.cell? ⟨g, o + 2, none⟩ = some (.int .i64 a.den)
theorem IsFr.below {w w' : World} {g o : Nat} {a : Fr} (h : IsFr w g o a) (hb : Below w.heap.size w w') (hg : g < w.heap.size) : IsFr w' g o a :=
  ⟨(hb.cell (p := ⟨g, o, none⟩) hg).trans h.1, (hb.cell (p := ⟨g, o + 1, none⟩) hg).trans h.2.1, (hb.cell (p := ⟨g, o + 2, none⟩) hg).trans h.2.2⟩
/- What the package-level variables that the code reads hold: one statement for each. -/
structure GZ (w : World) : Prop where
  lts : 0 < w.heap.size ∧ 1 < w.heap.size
  val : IsFr w 1 0 ⟨0, 0, 1⟩
theorem GZ.below {w w' : World} (h : GZ w) (hb : Below w.heap.size w w') : GZ w' where
  lts := by have := h.lts; have := hb.size; omega
  val := h.val.below hb (by have := h.lts; omega)
structure GO (w : World) : Prop where
  lts : 0 < w.heap.size
  val : IsFr w 0 0 ⟨1, 0, 1⟩
theorem GO.below {w w' : World} (h : GO w) (hb : Below w.heap.size w w') : GO w' where
  lts := by have := h.lts; have := hb.size; omega
  val := h.val.below hb (by have := h.lts; omega)
structure GU (w : World) : Prop where
  lts : 0 < w.heap.size ∧ 1 < w.heap.size ∧ 2 < w.heap.size ∧ 3 < w.heap.size
  val : IsFr w 3 0 ⟨0, 1, 1⟩
theorem GU.below {w w' : World} (h : GU w) (hb : Below w.heap.size w w') : GU w' where
  lts := by have := h.lts; have := hb.size; omega
  val := h.val.below hb (by have := h.lts; omega)
structure GT (w : World) : Prop where
  lts : 0 < w.heap.size ∧ 1 < w.heap.size ∧ 2 < w.heap.size
  val : IsFr w 2 0 ⟨1, 0, 1⟩ ∧ IsFr w 2 3 ⟨0, 1, 1⟩ ∧ IsFr w 2 6 ⟨-1, 0, 1⟩ ∧ IsFr w 2 9 ⟨0, -1, 1⟩
theorem GT.below {w w' : World} (h : GT w) (hb : Below w.heap.size w w') : GT w' where
  lts := by have := h.lts; have := hb.size; omega
  val := ⟨h.val.1.below hb (by have := h.lts; omega), h.val.2.1.below hb (by have := h.lts; omega), h.val.2.2.1.below hb (by have := h.lts; omega), h.val.2.2.2.below hb (by have := h.lts; omega)⟩
theorem over_bd (b : Fr) (hb : fvalid b = true) (hz : isZero b = false) : (-9000000000000000000 ≤ b.den * b.re ∧ b.den * b.re ≤ 9000000000000000000) ∧ (-9000000000000000000 ≤ -b.den * b.im ∧ -b.den * b.im ≤ 9000000000000000000) ∧ (1 ≤ b.re * b.re + b.im * b.im ∧ b.re * b.re + b.im * b.im ≤ 9000000000000000000) ∧ (b.re * b.re ≤ 4000000000000000000 ∧ -4000000000000000000 ≤ b.re * b.re) ∧ (b.im * b.im ≤ 4000000000000000000 ∧ -4000000000000000000 ≤ b.im * b.im) ∧ (-9000000000000000000 ≤ -b.den ∧ -b.den ≤ 9000000000000000000) := by
  obtain ⟨⟨b1, b2⟩, ⟨b3, b4⟩, ⟨b5, b6⟩⟩ := fvalid_bd b hb
  have n := norm_pos b hz
  have m1 := mulbd b.den b.re (by omega) (by omega) (by omega) (by omega)
  have m2 := mulbd (-b.den) b.im (by omega) (by omega) (by omega) (by omega)
  have m3 := mulbd b.re b.re (by omega) (by omega) (by omega) (by omega)
  have m4 := mulbd b.im b.im (by omega) (by omega) (by omega) (by omega)
  omega
theorem power_bd (b : Fr) (hb : fvalid b = true) : (-9000000000000000000 ≤ b.re * b.re + b.im * b.im ∧ b.re * b.re + b.im * b.im ≤ 9000000000000000000) ∧ (b.re * b.re ≤ 4000000000000000000 ∧ -4000000000000000000 ≤ b.re * b.re) ∧ (b.im * b.im ≤ 4000000000000000000 ∧ -4000000000000000000 ≤ b.im * b.im) ∧ (1 ≤ b.den * b.den ∧ b.den * b.den ≤ 9000000000000000000) := by
  obtain ⟨⟨b1, b2⟩, ⟨b3, b4⟩, ⟨b5, b6⟩⟩ := fvalid_bd b hb
  have m2 := mulbd1 b.den b.den (by omega) (by omega) (by omega) (by omega)
  have m3 := mulbd b.re b.re (by omega) (by omega) (by omega) (by omega)
  have m4 := mulbd b.im b.im (by omega) (by omega) (by omega) (by omega)
  omega
set_option maxHeartbeats 1000000 in
theorem over_core (a b : Fr) (w : World) (hG : GZ w) (ha : fvalid a = true) (hb : fvalid b = true) (hz : isZero b = false) (r : Option Fr) (hr : lowI (b.den * b.re) (-b.den * b.im) (b.re * b.re + b.im * b.im) = r)
    (hne : (b.re == 0) = false ∨ (b.re = 0 ∧ (b.im == 0) = false)) :
    Calls Tryz.prog 81 #[frv a, frv b] w fun e w' => e = .returned (frb (r.bind (timesI a))) ∧ Below w.heap.size w w' := by
  obtain ⟨⟨p1, p2⟩, ⟨p3, p4⟩, ⟨p5, p6⟩, ⟨p7, p8⟩, ⟨p9, p10⟩, ⟨p11, p12⟩⟩ := over_bd b hb hz
  have hgz := hG.val
  have hgl := hG.lts
  obtain ⟨x, y, z⟩ := b
  dsimp only at *
  clear hz hG
  rcases hne with hne | ⟨rfl, hne⟩
  · cases r with
    | none =>
      show Calls Tryz.prog 81 #[frv a, frv _] w fun e w' => e = .returned (frb (none)) ∧ Below w.heap.size w w'
      go_enter Tryz.func81, Tryz.ntmps81
      go_wp2_with (first | (go_at_call 78; (with_reducible refine (fvalid_t ⟨_, _, _⟩ _ (by assumption)).mono ?_); rintro e w1 ⟨rfl, hb⟩; obtain ⟨hc, hf⟩ := bf hb (w.heap.size + 1 + 1 + 1) side_; have hs := hb.size; (try simp only [World.size_alloc, World.size_setCell, World.size_drew, World.heap_drewN] at hs); have hl : w.heap.size ≤ w1.heap.size ∧ w.heap.size < w1.heap.size ∧ w.heap.size + 1 < w1.heap.size ∧ w.heap.size + 1 + 1 < w1.heap.size := ⟨by omega, by omega, by omega, by omega⟩; have hB : Below w.heap.size w w1 := bstep (by exact below_) hb side_; clear hs hb) | (go_at_call 75; (with_reducible refine (lowest_any _ _ _ _ (by omega) (by omega) (by omega) (by omega) (by omega) (by omega)).mono ?_); rintro e w1 ⟨rfl, hb⟩; obtain ⟨hc, hf⟩ := bf hb (w.heap.size + 1 + 1 + 1) side_; have hs := hb.size; (try simp only [World.size_alloc, World.size_setCell, World.size_drew, World.heap_drewN] at hs); have hl : w.heap.size ≤ w1.heap.size ∧ w.heap.size < w1.heap.size ∧ w.heap.size + 1 < w1.heap.size ∧ w.heap.size + 1 + 1 < w1.heap.size := ⟨by omega, by omega, by omega, by omega⟩; obtain ⟨B, hBe, hBl, hc2, hf2⟩ := bfA hb; (try simp only [World.size_alloc, World.size_setCell, World.size_drew, World.heap_drewN] at hBe); have hB : Below w.heap.size w w1 := bstep (by exact below_) hb side_; clear hs hb))
      exact bodyPost_ret (v := frb (none)) (by simp [results, Tryz.results81, go_sem, *]) rfl ⟨rfl, by exact below_⟩
    | some c =>
      show Calls Tryz.prog 81 #[frv a, frv _] w fun e w' => e = .returned (frb (timesI a c)) ∧ Below w.heap.size w w'
      go_enter Tryz.func81, Tryz.ntmps81
      go_wp2_with (first | (go_at_call 78; (with_reducible refine (fvalid_t ⟨_, _, _⟩ _ (by assumption)).mono ?_); rintro e w1 ⟨rfl, hb⟩; obtain ⟨hc, hf⟩ := bf hb (w.heap.size + 1 + 1 + 1) side_; have hs := hb.size; (try simp only [World.size_alloc, World.size_setCell, World.size_drew, World.heap_drewN] at hs); have hl : w.heap.size ≤ w1.heap.size ∧ w.heap.size < w1.heap.size ∧ w.heap.size + 1 < w1.heap.size ∧ w.heap.size + 1 + 1 < w1.heap.size := ⟨by omega, by omega, by omega, by omega⟩; have hB : Below w.heap.size w w1 := bstep (by exact below_) hb side_; clear hs hb) | (go_at_call 75; (with_reducible refine (lowest_any _ _ _ _ (by omega) (by omega) (by omega) (by omega) (by omega) (by omega)).mono ?_); rintro e w1 ⟨rfl, hb⟩; obtain ⟨hc, hf⟩ := bf hb (w.heap.size + 1 + 1 + 1) side_; have hs := hb.size; (try simp only [World.size_alloc, World.size_setCell, World.size_drew, World.heap_drewN] at hs); have hl : w.heap.size ≤ w1.heap.size ∧ w.heap.size < w1.heap.size ∧ w.heap.size + 1 < w1.heap.size ∧ w.heap.size + 1 + 1 < w1.heap.size := ⟨by omega, by omega, by omega, by omega⟩; obtain ⟨B, hBe, hBl, hc2, hf2⟩ := bfA hb; (try simp only [World.size_alloc, World.size_setCell, World.size_drew, World.heap_drewN] at hBe); have hB : Below w.heap.size w w1 := bstep (by exact below_) hb side_; clear hs hb) | (go_at_call 77; (with_reducible refine (times_any a c _).mono ?_); rintro e w1 ⟨rfl, hb⟩; obtain ⟨hc, hf⟩ := bf hb (w.heap.size + 1 + 1 + 1) side_; have hs := hb.size; (try simp only [World.size_alloc, World.size_setCell, World.size_drew, World.heap_drewN] at hs); have hl : w.heap.size ≤ w1.heap.size ∧ w.heap.size < w1.heap.size ∧ w.heap.size + 1 < w1.heap.size ∧ w.heap.size + 1 + 1 < w1.heap.size := ⟨by omega, by omega, by omega, by omega⟩; obtain ⟨B, hBe, hBl, hc2, hf2⟩ := bfA hb; (try simp only [World.size_alloc, World.size_setCell, World.size_drew, World.heap_drewN] at hBe); have hB : Below w.heap.size w w1 := bstep (by exact below_) hb side_; clear hs hb))
      exact bodyPost_ret (v := frb (timesI a c)) (by simp [results, Tryz.results81, go_sem, *]) rfl ⟨rfl, by exact below_⟩
  · simp only [Int.mul_zero, Int.zero_mul, Int.zero_add] at *
    cases r with
    | none =>
      show Calls Tryz.prog 81 #[frv a, frv _] w fun e w' => e = .returned (frb (none)) ∧ Below w.heap.size w w'
      go_enter Tryz.func81, Tryz.ntmps81
      go_wp2_with (first | (go_at_call 78; (with_reducible refine (fvalid_t ⟨_, _, _⟩ _ (by assumption)).mono ?_); rintro e w1 ⟨rfl, hb⟩; obtain ⟨hc, hf⟩ := bf hb (w.heap.size + 1 + 1 + 1) side_; have hs := hb.size; (try simp only [World.size_alloc, World.size_setCell, World.size_drew, World.heap_drewN] at hs); have hl : w.heap.size ≤ w1.heap.size ∧ w.heap.size < w1.heap.size ∧ w.heap.size + 1 < w1.heap.size ∧ w.heap.size + 1 + 1 < w1.heap.size := ⟨by omega, by omega, by omega, by omega⟩; have hB : Below w.heap.size w w1 := bstep (by exact below_) hb side_; clear hs hb) | (go_at_call 75; (with_reducible refine (lowest_any _ _ _ _ (by omega) (by omega) (by omega) (by omega) (by omega) (by omega)).mono ?_); rintro e w1 ⟨rfl, hb⟩; obtain ⟨hc, hf⟩ := bf hb (w.heap.size + 1 + 1 + 1) side_; have hs := hb.size; (try simp only [World.size_alloc, World.size_setCell, World.size_drew, World.heap_drewN] at hs); have hl : w.heap.size ≤ w1.heap.size ∧ w.heap.size < w1.heap.size ∧ w.heap.size + 1 < w1.heap.size ∧ w.heap.size + 1 + 1 < w1.heap.size := ⟨by omega, by omega, by omega, by omega⟩; obtain ⟨B, hBe, hBl, hc2, hf2⟩ := bfA hb; (try simp only [World.size_alloc, World.size_setCell, World.size_drew, World.heap_drewN] at hBe); have hB : Below w.heap.size w w1 := bstep (by exact below_) hb side_; clear hs hb))
      exact bodyPost_ret (v := frb (none)) (by simp [results, Tryz.results81, go_sem, *]) rfl ⟨rfl, by exact below_⟩
    | some c =>
      show Calls Tryz.prog 81 #[frv a, frv _] w fun e w' => e = .returned (frb (timesI a c)) ∧ Below w.heap.size w w'
      go_enter Tryz.func81, Tryz.ntmps81
      go_wp2_with (first | (go_at_call 78; (with_reducible refine (fvalid_t ⟨_, _, _⟩ _ (by assumption)).mono ?_); rintro e w1 ⟨rfl, hb⟩; obtain ⟨hc, hf⟩ := bf hb (w.heap.size + 1 + 1 + 1) side_; have hs := hb.size; (try simp only [World.size_alloc, World.size_setCell, World.size_drew, World.heap_drewN] at hs); have hl : w.heap.size ≤ w1.heap.size ∧ w.heap.size < w1.heap.size ∧ w.heap.size + 1 < w1.heap.size ∧ w.heap.size + 1 + 1 < w1.heap.size := ⟨by omega, by omega, by omega, by omega⟩; have hB : Below w.heap.size w w1 := bstep (by exact below_) hb side_; clear hs hb) | (go_at_call 75; (with_reducible refine (lowest_any _ _ _ _ (by omega) (by omega) (by omega) (by omega) (by omega) (by omega)).mono ?_); rintro e w1 ⟨rfl, hb⟩; obtain ⟨hc, hf⟩ := bf hb (w.heap.size + 1 + 1 + 1) side_; have hs := hb.size; (try simp only [World.size_alloc, World.size_setCell, World.size_drew, World.heap_drewN] at hs); have hl : w.heap.size ≤ w1.heap.size ∧ w.heap.size < w1.heap.size ∧ w.heap.size + 1 < w1.heap.size ∧ w.heap.size + 1 + 1 < w1.heap.size := ⟨by omega, by omega, by omega, by omega⟩; obtain ⟨B, hBe, hBl, hc2, hf2⟩ := bfA hb; (try simp only [World.size_alloc, World.size_setCell, World.size_drew, World.heap_drewN] at hBe); have hB : Below w.heap.size w w1 := bstep (by exact below_) hb side_; clear hs hb) | (go_at_call 77; (with_reducible refine (times_any a c _).mono ?_); rintro e w1 ⟨rfl, hb⟩; obtain ⟨hc, hf⟩ := bf hb (w.heap.size + 1 + 1 + 1) side_; have hs := hb.size; (try simp only [World.size_alloc, World.size_setCell, World.size_drew, World.heap_drewN] at hs); have hl : w.heap.size ≤ w1.heap.size ∧ w.heap.size < w1.heap.size ∧ w.heap.size + 1 < w1.heap.size ∧ w.heap.size + 1 + 1 < w1.heap.size := ⟨by omega, by omega, by omega, by omega⟩; obtain ⟨B, hBe, hBl, hc2, hf2⟩ := bfA hb; (try simp only [World.size_alloc, World.size_setCell, World.size_drew, World.heap_drewN] at hBe); have hB : Below w.heap.size w w1 := bstep (by exact below_) hb side_; clear hs hb))
      exact bodyPost_ret (v := frb (timesI a c)) (by simp [results, Tryz.results81, go_sem, *]) rfl ⟨rfl, by exact below_⟩

set_option maxHeartbeats 1000000 in
theorem over_any (a b : Fr) (w : World) (hG : GZ w) :
    Calls Tryz.prog 81 #[frv a, frv b] w fun e w' => e = .returned (frb (overI a b)) ∧ Below w.heap.size w w' := by
  cases ha : fvalid a
  · have e : overI a b = none := by simp [overI, ha]
    rw [e]; clear e
    go_enter Tryz.func81, Tryz.ntmps81
    go_wp2_with (first | (go_at_call 78; (with_reducible refine (fvalid_f _ _ (by assumption)).mono ?_); rintro e w1 ⟨rfl, hb⟩; obtain ⟨hc, hf⟩ := bf hb (w.heap.size + 1 + 1 + 1) side_; have hs := hb.size; (try simp only [World.size_alloc, World.size_setCell, World.size_drew, World.heap_drewN] at hs); have hl : w.heap.size ≤ w1.heap.size ∧ w.heap.size < w1.heap.size ∧ w.heap.size + 1 < w1.heap.size ∧ w.heap.size + 1 + 1 < w1.heap.size := ⟨by omega, by omega, by omega, by omega⟩; have hB : Below w.heap.size w w1 := bstep (by exact below_) hb side_; clear hs hb))
    exact bodyPost_ret (v := frb none) (by simp [results, Tryz.results81, go_sem, *]) rfl ⟨rfl, by exact below_⟩
  cases hb : fvalid b
  · have e : overI a b = none := by simp [overI, ha, hb]
    rw [e]; clear e
    go_enter Tryz.func81, Tryz.ntmps81
    go_wp2_with (first | (go_at_call 78; (with_reducible refine (fvalid_t _ _ (by assumption)).mono ?_); rintro e w1 ⟨rfl, hb⟩; obtain ⟨hc, hf⟩ := bf hb (w.heap.size + 1 + 1 + 1) side_; have hs := hb.size; (try simp only [World.size_alloc, World.size_setCell, World.size_drew, World.heap_drewN] at hs); have hl : w.heap.size ≤ w1.heap.size ∧ w.heap.size < w1.heap.size ∧ w.heap.size + 1 < w1.heap.size ∧ w.heap.size + 1 + 1 < w1.heap.size := ⟨by omega, by omega, by omega, by omega⟩; have hB : Below w.heap.size w w1 := bstep (by exact below_) hb side_; clear hs hb) | (go_at_call 78; (with_reducible refine (fvalid_f _ _ (by assumption)).mono ?_); rintro e w1 ⟨rfl, hb⟩; obtain ⟨hc, hf⟩ := bf hb (w.heap.size + 1 + 1 + 1) side_; have hs := hb.size; (try simp only [World.size_alloc, World.size_setCell, World.size_drew, World.heap_drewN] at hs); have hl : w.heap.size ≤ w1.heap.size ∧ w.heap.size < w1.heap.size ∧ w.heap.size + 1 < w1.heap.size ∧ w.heap.size + 1 + 1 < w1.heap.size := ⟨by omega, by omega, by omega, by omega⟩; have hB : Below w.heap.size w w1 := bstep (by exact below_) hb side_; clear hs hb))
    exact bodyPost_ret (v := frb none) (by simp [results, Tryz.results81, go_sem, *]) rfl ⟨rfl, by exact below_⟩
  cases hz : isZero b
  · have e : overI a b = (turnI b).bind (timesI a) := by simp [overI, ha, hb, hz]
    rw [e]
    refine over_core a b w hG ha hb hz _ rfl ?_
    unfold isZero at hz
    by_cases h1 : b.re = 0
    · exact .inr ⟨h1, by simpa [h1] using hz⟩
    · exact .inl (by simpa using h1)
  · have e : overI a b = none := by simp [overI, hz]
    rw [e]; clear e
    have hb0 : b = ⟨0, 0, 1⟩ := by
      have := fvalid_zero b hb
      rw [hz] at this
      simp at this
      obtain ⟨x, y, z⟩ := b
      simpa using this
    subst hb0
    have hgz := hG.val
    have hgl := hG.lts
    clear hz hG
    go_enter Tryz.func81, Tryz.ntmps81
    go_wp2_with (first | (go_at_call 78; (with_reducible refine (fvalid_t ⟨_, _, _⟩ _ (by assumption)).mono ?_); rintro e w1 ⟨rfl, hb⟩; obtain ⟨hc, hf⟩ := bf hb (w.heap.size + 1 + 1 + 1) side_; have hs := hb.size; (try simp only [World.size_alloc, World.size_setCell, World.size_drew, World.heap_drewN] at hs); have hl : w.heap.size ≤ w1.heap.size ∧ w.heap.size < w1.heap.size ∧ w.heap.size + 1 < w1.heap.size ∧ w.heap.size + 1 + 1 < w1.heap.size := ⟨by omega, by omega, by omega, by omega⟩; have hB : Below w.heap.size w w1 := bstep (by exact below_) hb side_; clear hs hb))
    exact bodyPost_ret (v := frb none) (by simp [results, Tryz.results81, go_sem, *]) rfl ⟨rfl, by exact below_⟩
set_option maxHeartbeats 400000 in
theorem mirror_any (a : Fr) (w : World) :
    Calls Tryz.prog 80 #[frv a] w fun e w' => e = .returned (frb (mirrorI a)) ∧ Below w.heap.size w w' := by
  cases ha : fvalid a
  · have e : mirrorI a = none := by simp [mirrorI, ha]
    rw [e]; clear e
    go_enter Tryz.func80, Tryz.ntmps80
    go_wp2_with (first | (go_at_call 78; (with_reducible refine (fvalid_f _ _ (by assumption)).mono ?_); rintro e w1 ⟨rfl, hb⟩; obtain ⟨hc, hf⟩ := bf hb (w.heap.size + 1 + 1) side_; have hs := hb.size; (try simp only [World.size_alloc, World.size_setCell, World.size_drew, World.heap_drewN] at hs); have hl : w.heap.size ≤ w1.heap.size ∧ w.heap.size < w1.heap.size ∧ w.heap.size + 1 < w1.heap.size := ⟨by omega, by omega, by omega⟩; have hB : Below w.heap.size w w1 := bstep (by exact below_) hb side_; clear hs hb))
    exact bodyPost_ret (v := frb none) (by simp [results, Tryz.results80, go_sem, *]) rfl ⟨rfl, by exact below_⟩
  · have e : mirrorI a = some ⟨a.re, -a.im, a.den⟩ := by simp [mirrorI, ha]
    rw [e]; clear e
    obtain ⟨⟨a1, a2⟩, ⟨a3, a4⟩, ⟨a5, a6⟩⟩ := fvalid_bd a ha
    go_enter Tryz.func80, Tryz.ntmps80
    go_wp2_with (first | (go_at_call 78; (with_reducible refine (fvalid_t _ _ (by assumption)).mono ?_); rintro e w1 ⟨rfl, hb⟩; obtain ⟨hc, hf⟩ := bf hb (w.heap.size + 1 + 1) side_; have hs := hb.size; (try simp only [World.size_alloc, World.size_setCell, World.size_drew, World.heap_drewN] at hs); have hl : w.heap.size ≤ w1.heap.size ∧ w.heap.size < w1.heap.size ∧ w.heap.size + 1 < w1.heap.size := ⟨by omega, by omega, by omega⟩; have hB : Below w.heap.size w w1 := bstep (by exact below_) hb side_; clear hs hb))
    exact bodyPost_ret (v := frb (some ⟨a.re, -a.im, a.den⟩)) (by simp [results, Tryz.results80, go_sem, *]) rfl ⟨rfl, by exact below_⟩
set_option maxHeartbeats 400000 in
theorem power_any (a : Fr) (w : World) :
    Calls Tryz.prog 79 #[frv a] w fun e w' => e = .returned (frb (powerI a)) ∧ Below w.heap.size w w' := by
  cases ha : fvalid a
  · have e : powerI a = none := by simp [powerI, ha]
    rw [e]; clear e
    go_enter Tryz.func79, Tryz.ntmps79
    go_wp2_with (first | (go_at_call 78; (with_reducible refine (fvalid_f _ _ (by assumption)).mono ?_); rintro e w1 ⟨rfl, hb⟩; obtain ⟨hc, hf⟩ := bf hb (w.heap.size + 1 + 1) side_; have hs := hb.size; (try simp only [World.size_alloc, World.size_setCell, World.size_drew, World.heap_drewN] at hs); have hl : w.heap.size ≤ w1.heap.size ∧ w.heap.size < w1.heap.size ∧ w.heap.size + 1 < w1.heap.size := ⟨by omega, by omega, by omega⟩; have hB : Below w.heap.size w w1 := bstep (by exact below_) hb side_; clear hs hb))
    exact bodyPost_ret (v := frb none) (by simp [results, Tryz.results79, go_sem, *]) rfl ⟨rfl, by exact below_⟩
  · have e : powerI a = lowI (a.re * a.re + a.im * a.im) 0 (a.den * a.den) := by simp [powerI, ha]
    rw [e]; clear e
    obtain ⟨⟨p1, p2⟩, ⟨p3, p4⟩, ⟨p5, p6⟩, ⟨p7, p8⟩⟩ := power_bd a ha
    go_enter Tryz.func79, Tryz.ntmps79
    go_wp2_with (first | (go_at_call 78; (with_reducible refine (fvalid_t _ _ (by assumption)).mono ?_); rintro e w1 ⟨rfl, hb⟩; obtain ⟨hc, hf⟩ := bf hb (w.heap.size + 1 + 1) side_; have hs := hb.size; (try simp only [World.size_alloc, World.size_setCell, World.size_drew, World.heap_drewN] at hs); have hl : w.heap.size ≤ w1.heap.size ∧ w.heap.size < w1.heap.size ∧ w.heap.size + 1 < w1.heap.size := ⟨by omega, by omega, by omega⟩; have hB : Below w.heap.size w w1 := bstep (by exact below_) hb side_; clear hs hb) | (go_at_call 75; (with_reducible refine (lowest_any _ _ _ _ (by omega) (by omega) (by omega) (by omega) (by omega) (by omega)).mono ?_); rintro e w1 ⟨rfl, hb⟩; obtain ⟨hc, hf⟩ := bf hb (w.heap.size + 1 + 1) side_; have hs := hb.size; (try simp only [World.size_alloc, World.size_setCell, World.size_drew, World.heap_drewN] at hs); have hl : w.heap.size ≤ w1.heap.size ∧ w.heap.size < w1.heap.size ∧ w.heap.size + 1 < w1.heap.size := ⟨by omega, by omega, by omega⟩; have hB : Below w.heap.size w w1 := bstep (by exact below_) hb side_; clear hs hb))
    exact bodyPost_ret (v := frb (lowI (a.re * a.re + a.im * a.im) 0 (a.den * a.den))) (by simp [results, Tryz.results79, go_sem, *]) rfl ⟨rfl, by exact below_⟩
end
section
open Go.RowKit
theorem sum_bd (a b : Fr) (ha : fvalid a = true) (hb : fvalid b = true) : (-4000000000000000000 ≤ a.re * b.den ∧ a.re * b.den ≤ 4000000000000000000) ∧ (-4000000000000000000 ≤ b.re * a.den ∧ b.re * a.den ≤ 4000000000000000000) ∧ (-4000000000000000000 ≤ a.im * b.den ∧ a.im * b.den ≤ 4000000000000000000) ∧ (-4000000000000000000 ≤ b.im * a.den ∧ b.im * a.den ≤ 4000000000000000000) ∧ (1 ≤ a.den * b.den ∧ a.den * b.den ≤ 4000000000000000000) := by
  obtain ⟨⟨a1, a2⟩, ⟨a3, a4⟩, ⟨a5, a6⟩⟩ := fvalid_bd a ha
  obtain ⟨⟨b1, b2⟩, ⟨b3, b4⟩, ⟨b5, b6⟩⟩ := fvalid_bd b hb
  exact ⟨mulbd _ _ a1 a2 (by omega) b6, mulbd _ _ b1 b2 (by omega) a6, mulbd _ _ a3 a4 (by omega) b6, mulbd _ _ b3 b4 (by omega) a6, mulbd1 _ _ a5 a6 b5 b6⟩
set_option maxHeartbeats 1000000 in
theorem ssum_add (a b : Fr) (w : World) :
    Calls Tryz.prog 113 #[frv a, .int .i64 (1), frv b] w fun e w' => e = .returned (frb (addI a b)) ∧ Below w.heap.size w w' := by
  cases ha : fvalid a
  · have e : addI a b = none := by simp [addI, ha]
    rw [e]; clear e
    go_enter Tryz.func113, Tryz.ntmps113
    go_wp2_with (first | (go_at_call 65; (with_reducible refine (sfvalid_f _ _ (by assumption)).mono ?_); rintro e w1 ⟨rfl, hb⟩; obtain ⟨hc, hf⟩ := bf hb (w.heap.size + 1 + 1 + 1) side_; have hs := hb.size; (try simp only [World.size_alloc, World.size_setCell, World.size_drew, World.heap_drewN] at hs); have hl : w.heap.size ≤ w1.heap.size ∧ w.heap.size < w1.heap.size ∧ w.heap.size + 1 < w1.heap.size ∧ w.heap.size + 1 + 1 < w1.heap.size := ⟨by omega, by omega, by omega, by omega⟩; have hB : Below w.heap.size w w1 := bstep (by exact below_) hb side_; clear hs hb))
    exact bodyPost_ret (v := frb none) (by simp [results, Tryz.results113, go_sem, *]) rfl ⟨rfl, by exact below_⟩
  cases hb : fvalid b
  · have e : addI a b = none := by simp [addI, ha, hb]
    rw [e]; clear e
    go_enter Tryz.func113, Tryz.ntmps113
    go_wp2_with (first | (go_at_call 65; (with_reducible refine (sfvalid_t _ _ (by assumption)).mono ?_); rintro e w1 ⟨rfl, hb⟩; obtain ⟨hc, hf⟩ := bf hb (w.heap.size + 1 + 1 + 1) side_; have hs := hb.size; (try simp only [World.size_alloc, World.size_setCell, World.size_drew, World.heap_drewN] at hs); have hl : w.heap.size ≤ w1.heap.size ∧ w.heap.size < w1.heap.size ∧ w.heap.size + 1 < w1.heap.size ∧ w.heap.size + 1 + 1 < w1.heap.size := ⟨by omega, by omega, by omega, by omega⟩; have hB : Below w.heap.size w w1 := bstep (by exact below_) hb side_; clear hs hb) | (go_at_call 65; (with_reducible refine (sfvalid_f _ _ (by assumption)).mono ?_); rintro e w1 ⟨rfl, hb⟩; obtain ⟨hc, hf⟩ := bf hb (w.heap.size + 1 + 1 + 1) side_; have hs := hb.size; (try simp only [World.size_alloc, World.size_setCell, World.size_drew, World.heap_drewN] at hs); have hl : w.heap.size ≤ w1.heap.size ∧ w.heap.size < w1.heap.size ∧ w.heap.size + 1 < w1.heap.size ∧ w.heap.size + 1 + 1 < w1.heap.size := ⟨by omega, by omega, by omega, by omega⟩; have hB : Below w.heap.size w w1 := bstep (by exact below_) hb side_; clear hs hb))
    exact bodyPost_ret (v := frb none) (by simp [results, Tryz.results113, go_sem, *]) rfl ⟨rfl, by exact below_⟩
  obtain ⟨⟨p1, p2⟩, ⟨p3, p4⟩, ⟨p5, p6⟩, ⟨p7, p8⟩, ⟨p9, p10⟩⟩ := sum_bd a b ha hb
  have e : addI a b = lowI (a.re * b.den + b.re * a.den) (a.im * b.den + b.im * a.den) (a.den * b.den) := by simp [addI, ha, hb]
  rw [e]; clear e
  obtain ⟨⟨b1, b2⟩, ⟨b3, b4⟩, ⟨b5, b6⟩⟩ := fvalid_bd b hb
  go_enter Tryz.func113, Tryz.ntmps113
  go_wp2_with (first | (go_at_call 65; (with_reducible refine (sfvalid_t _ _ (by assumption)).mono ?_); rintro e w1 ⟨rfl, hb⟩; obtain ⟨hc, hf⟩ := bf hb (w.heap.size + 1 + 1 + 1) side_; have hs := hb.size; (try simp only [World.size_alloc, World.size_setCell, World.size_drew, World.heap_drewN] at hs); have hl : w.heap.size ≤ w1.heap.size ∧ w.heap.size < w1.heap.size ∧ w.heap.size + 1 < w1.heap.size ∧ w.heap.size + 1 + 1 < w1.heap.size := ⟨by omega, by omega, by omega, by omega⟩; have hB : Below w.heap.size w w1 := bstep (by exact below_) hb side_; clear hs hb) | (go_at_call 90; (with_reducible refine (slow_any _ _ _ _ (by omega) (by omega) (by omega) (by omega) (by omega) (by omega)).mono ?_); rintro e w1 ⟨rfl, hb⟩; obtain ⟨hc, hf⟩ := bf hb (w.heap.size + 1 + 1 + 1) side_; have hs := hb.size; (try simp only [World.size_alloc, World.size_setCell, World.size_drew, World.heap_drewN] at hs); have hl : w.heap.size ≤ w1.heap.size ∧ w.heap.size < w1.heap.size ∧ w.heap.size + 1 < w1.heap.size ∧ w.heap.size + 1 + 1 < w1.heap.size := ⟨by omega, by omega, by omega, by omega⟩; have hB : Below w.heap.size w w1 := bstep (by exact below_) hb side_; clear hs hb))
  exact bodyPost_ret (v := frb (lowI (a.re * b.den + b.re * a.den) (a.im * b.den + b.im * a.den) (a.den * b.den))) (by simp [results, Tryz.results113, go_sem, *]) rfl ⟨rfl, by exact below_⟩
set_option maxHeartbeats 1000000 in
theorem ssum_less (a b : Fr) (w : World) :
    Calls Tryz.prog 113 #[frv a, .int .i64 (-1), frv b] w fun e w' => e = .returned (frb (lessI a b)) ∧ Below w.heap.size w w' := by
  cases ha : fvalid a
  · have e : lessI a b = none := by simp [lessI, ha]
    rw [e]; clear e
    go_enter Tryz.func113, Tryz.ntmps113
    go_wp2_with (first | (go_at_call 65; (with_reducible refine (sfvalid_f _ _ (by assumption)).mono ?_); rintro e w1 ⟨rfl, hb⟩; obtain ⟨hc, hf⟩ := bf hb (w.heap.size + 1 + 1 + 1) side_; have hs := hb.size; (try simp only [World.size_alloc, World.size_setCell, World.size_drew, World.heap_drewN] at hs); have hl : w.heap.size ≤ w1.heap.size ∧ w.heap.size < w1.heap.size ∧ w.heap.size + 1 < w1.heap.size ∧ w.heap.size + 1 + 1 < w1.heap.size := ⟨by omega, by omega, by omega, by omega⟩; have hB : Below w.heap.size w w1 := bstep (by exact below_) hb side_; clear hs hb))
    exact bodyPost_ret (v := frb none) (by simp [results, Tryz.results113, go_sem, *]) rfl ⟨rfl, by exact below_⟩
  cases hb : fvalid b
  · have e : lessI a b = none := by simp [lessI, ha, hb]
    rw [e]; clear e
    go_enter Tryz.func113, Tryz.ntmps113
    go_wp2_with (first | (go_at_call 65; (with_reducible refine (sfvalid_t _ _ (by assumption)).mono ?_); rintro e w1 ⟨rfl, hb⟩; obtain ⟨hc, hf⟩ := bf hb (w.heap.size + 1 + 1 + 1) side_; have hs := hb.size; (try simp only [World.size_alloc, World.size_setCell, World.size_drew, World.heap_drewN] at hs); have hl : w.heap.size ≤ w1.heap.size ∧ w.heap.size < w1.heap.size ∧ w.heap.size + 1 < w1.heap.size ∧ w.heap.size + 1 + 1 < w1.heap.size := ⟨by omega, by omega, by omega, by omega⟩; have hB : Below w.heap.size w w1 := bstep (by exact below_) hb side_; clear hs hb) | (go_at_call 65; (with_reducible refine (sfvalid_f _ _ (by assumption)).mono ?_); rintro e w1 ⟨rfl, hb⟩; obtain ⟨hc, hf⟩ := bf hb (w.heap.size + 1 + 1 + 1) side_; have hs := hb.size; (try simp only [World.size_alloc, World.size_setCell, World.size_drew, World.heap_drewN] at hs); have hl : w.heap.size ≤ w1.heap.size ∧ w.heap.size < w1.heap.size ∧ w.heap.size + 1 < w1.heap.size ∧ w.heap.size + 1 + 1 < w1.heap.size := ⟨by omega, by omega, by omega, by omega⟩; have hB : Below w.heap.size w w1 := bstep (by exact below_) hb side_; clear hs hb))
    exact bodyPost_ret (v := frb none) (by simp [results, Tryz.results113, go_sem, *]) rfl ⟨rfl, by exact below_⟩
  obtain ⟨⟨p1, p2⟩, ⟨p3, p4⟩, ⟨p5, p6⟩, ⟨p7, p8⟩, ⟨p9, p10⟩⟩ := sum_bd a b ha hb
  have e : lessI a b = lowI (a.re * b.den - b.re * a.den) (a.im * b.den - b.im * a.den) (a.den * b.den) := by simp [lessI, ha, hb]
  rw [e]; clear e
  have n1 : -(b.re * a.den) = -b.re * a.den := by rw [Int.neg_mul]
  have n2 : -(b.im * a.den) = -b.im * a.den := by rw [Int.neg_mul]
  obtain ⟨⟨b1, b2⟩, ⟨b3, b4⟩, ⟨b5, b6⟩⟩ := fvalid_bd b hb
  have q3 : -4000000000000000000 ≤ -b.re * a.den ∧ -b.re * a.den ≤ 4000000000000000000 := by omega
  have q4 : -4000000000000000000 ≤ -b.im * a.den ∧ -b.im * a.den ≤ 4000000000000000000 := by omega
  rw [Int.sub_eq_add_neg, Int.sub_eq_add_neg, n1, n2]
  clear n1 n2 p3 p4 p7 p8
  go_enter Tryz.func113, Tryz.ntmps113
  go_wp2_with (first | (go_at_call 65; (with_reducible refine (sfvalid_t _ _ (by assumption)).mono ?_); rintro e w1 ⟨rfl, hb⟩; obtain ⟨hc, hf⟩ := bf hb (w.heap.size + 1 + 1 + 1) side_; have hs := hb.size; (try simp only [World.size_alloc, World.size_setCell, World.size_drew, World.heap_drewN] at hs); have hl : w.heap.size ≤ w1.heap.size ∧ w.heap.size < w1.heap.size ∧ w.heap.size + 1 < w1.heap.size ∧ w.heap.size + 1 + 1 < w1.heap.size := ⟨by omega, by omega, by omega, by omega⟩; have hB : Below w.heap.size w w1 := bstep (by exact below_) hb side_; clear hs hb) | (go_at_call 90; (with_reducible refine (slow_any _ _ _ _ (by omega) (by omega) (by omega) (by omega) (by omega) (by omega)).mono ?_); rintro e w1 ⟨rfl, hb⟩; obtain ⟨hc, hf⟩ := bf hb (w.heap.size + 1 + 1 + 1) side_; have hs := hb.size; (try simp only [World.size_alloc, World.size_setCell, World.size_drew, World.heap_drewN] at hs); have hl : w.heap.size ≤ w1.heap.size ∧ w.heap.size < w1.heap.size ∧ w.heap.size + 1 < w1.heap.size ∧ w.heap.size + 1 + 1 < w1.heap.size := ⟨by omega, by omega, by omega, by omega⟩; have hB : Below w.heap.size w w1 := bstep (by exact below_) hb side_; clear hs hb))
  exact bodyPost_ret (v := frb (lowI (a.re * b.den + -b.re * a.den) (a.im * b.den + -b.im * a.den) (a.den * b.den))) (by simp [results, Tryz.results113, go_sem, *]) rfl ⟨rfl, by exact below_⟩
set_option maxHeartbeats 400000 in
theorem sadd_any (a b : Fr) (w : World) :
    Calls Tryz.prog 96 #[frv a, frv b] w fun e w' => e = .returned (frb (addI a b)) ∧ Below w.heap.size w w' := by
  go_enter Tryz.func96, Tryz.ntmps96
  go_wp2_with (first | (go_at_call 113; (with_reducible refine (ssum_add a b _).mono ?_); rintro e w1 ⟨rfl, hb⟩; obtain ⟨hc, hf⟩ := bf hb (w.heap.size + 1 + 1 + 1) side_; have hs := hb.size; (try simp only [World.size_alloc, World.size_setCell, World.size_drew, World.heap_drewN] at hs); have hl : w.heap.size ≤ w1.heap.size ∧ w.heap.size < w1.heap.size ∧ w.heap.size + 1 < w1.heap.size ∧ w.heap.size + 1 + 1 < w1.heap.size := ⟨by omega, by omega, by omega, by omega⟩; have hB : Below w.heap.size w w1 := bstep (by exact below_) hb side_; clear hs hb))
  exact bodyPost_ret (v := frb (addI a b)) (by simp [results, Tryz.results96, go_sem, *]) rfl ⟨rfl, by exact below_⟩
set_option maxHeartbeats 400000 in
theorem sless_any (a b : Fr) (w : World) :
    Calls Tryz.prog 97 #[frv a, frv b] w fun e w' => e = .returned (frb (lessI a b)) ∧ Below w.heap.size w w' := by
  go_enter Tryz.func97, Tryz.ntmps97
  go_wp2_with (first | (go_at_call 113; (with_reducible refine (ssum_less a b _).mono ?_); rintro e w1 ⟨rfl, hb⟩; obtain ⟨hc, hf⟩ := bf hb (w.heap.size + 1 + 1 + 1) side_; have hs := hb.size; (try simp only [World.size_alloc, World.size_setCell, World.size_drew, World.heap_drewN] at hs); have hl : w.heap.size ≤ w1.heap.size ∧ w.heap.size < w1.heap.size ∧ w.heap.size + 1 < w1.heap.size ∧ w.heap.size + 1 + 1 < w1.heap.size := ⟨by omega, by omega, by omega, by omega⟩; have hB : Below w.heap.size w w1 := bstep (by exact below_) hb side_; clear hs hb))
  exact bodyPost_ret (v := frb (lessI a b)) (by simp [results, Tryz.results97, go_sem, *]) rfl ⟨rfl, by exact below_⟩
set_option maxHeartbeats 400000 in
theorem smirror_any (a : Fr) (w : World) :
    Calls Tryz.prog 95 #[frv a] w fun e w' => e = .returned (frb (mirrorI a)) ∧ Below w.heap.size w w' := by
  cases ha : fvalid a
  · have e : mirrorI a = none := by simp [mirrorI, ha]
    rw [e]; clear e
    go_enter Tryz.func95, Tryz.ntmps95
    go_wp2_with (first | (go_at_call 65; (with_reducible refine (sfvalid_f _ _ (by assumption)).mono ?_); rintro e w1 ⟨rfl, hb⟩; obtain ⟨hc, hf⟩ := bf hb (w.heap.size + 1 + 1) side_; have hs := hb.size; (try simp only [World.size_alloc, World.size_setCell, World.size_drew, World.heap_drewN] at hs); have hl : w.heap.size ≤ w1.heap.size ∧ w.heap.size < w1.heap.size ∧ w.heap.size + 1 < w1.heap.size := ⟨by omega, by omega, by omega⟩; have hB : Below w.heap.size w w1 := bstep (by exact below_) hb side_; clear hs hb))
    exact bodyPost_ret (v := frb none) (by simp [results, Tryz.results95, go_sem, *]) rfl ⟨rfl, by exact below_⟩
  · have e : mirrorI a = some ⟨a.re, -a.im, a.den⟩ := by simp [mirrorI, ha]
    rw [e]; clear e
    obtain ⟨⟨a1, a2⟩, ⟨a3, a4⟩, ⟨a5, a6⟩⟩ := fvalid_bd a ha
    go_enter Tryz.func95, Tryz.ntmps95
    go_wp2_with (first | (go_at_call 65; (with_reducible refine (sfvalid_t _ _ (by assumption)).mono ?_); rintro e w1 ⟨rfl, hb⟩; obtain ⟨hc, hf⟩ := bf hb (w.heap.size + 1 + 1) side_; have hs := hb.size; (try simp only [World.size_alloc, World.size_setCell, World.size_drew, World.heap_drewN] at hs); have hl : w.heap.size ≤ w1.heap.size ∧ w.heap.size < w1.heap.size ∧ w.heap.size + 1 < w1.heap.size := ⟨by omega, by omega, by omega⟩; have hB : Below w.heap.size w w1 := bstep (by exact below_) hb side_; clear hs hb))
    exact bodyPost_ret (v := frb (some ⟨a.re, -a.im, a.den⟩)) (by simp [results, Tryz.results95, go_sem, *]) rfl ⟨rfl, by exact below_⟩
theorem power_mirror (a : Fr) (ha : fvalid a = true) : powerI a = timesI a ⟨a.re, -a.im, a.den⟩ := by
  have hm : fvalid ⟨a.re, -a.im, a.den⟩ = true := by
    have h := ha
    simp only [fvalid, inB, gcd3, absI, Int.natAbs_neg, Bool.and_eq_true, decide_eq_true_eq] at h ⊢
    refine ⟨⟨⟨h.1.1.1, by omega⟩, h.1.2⟩, h.2⟩
  simp only [powerI, timesI, ha, hm, Bool.and_self, if_true]
  congr 1
  · rw [Int.mul_neg, Int.sub_neg]
  · rw [Int.mul_neg, Int.mul_comm a.im a.re]; omega
set_option maxHeartbeats 400000 in
theorem spower_any (a : Fr) (w : World) :
    Calls Tryz.prog 94 #[frv a] w fun e w' => e = .returned (frb (powerI a)) ∧ Below w.heap.size w w' := by
  cases ha : fvalid a
  · have e : powerI a = none := by simp [powerI, ha]
    have em : mirrorI a = none := by simp [mirrorI, ha]
    rw [e]; clear e
    go_enter Tryz.func94, Tryz.ntmps94
    go_wp2_with (first | (go_at_call 95; (with_reducible refine (smirror_any _ _).mono ?_); rintro e w1 ⟨rfl, hb⟩; obtain ⟨hc, hf⟩ := bf hb (w.heap.size + 1 + 1) side_; have hs := hb.size; (try simp only [World.size_alloc, World.size_setCell, World.size_drew, World.heap_drewN] at hs); have hl : w.heap.size ≤ w1.heap.size ∧ w.heap.size < w1.heap.size ∧ w.heap.size + 1 < w1.heap.size := ⟨by omega, by omega, by omega⟩; obtain ⟨B, hBe, hBl, hc2, hf2⟩ := bfA hb; (try simp only [World.size_alloc, World.size_setCell, World.size_drew, World.heap_drewN] at hBe); have hB : Below w.heap.size w w1 := bstep (by exact below_) hb side_; clear hs hb))
    exact bodyPost_ret (v := frb none) (by simp [results, Tryz.results94, go_sem, *]) rfl ⟨rfl, by exact below_⟩
  · have em : mirrorI a = some ⟨a.re, -a.im, a.den⟩ := by simp [mirrorI, ha]
    rw [power_mirror a ha]
    go_enter Tryz.func94, Tryz.ntmps94
    go_wp2_with (first | (go_at_call 95; (with_reducible refine (smirror_any _ _).mono ?_); rintro e w1 ⟨rfl, hb⟩; obtain ⟨hc, hf⟩ := bf hb (w.heap.size + 1 + 1) side_; have hs := hb.size; (try simp only [World.size_alloc, World.size_setCell, World.size_drew, World.heap_drewN] at hs); have hl : w.heap.size ≤ w1.heap.size ∧ w.heap.size < w1.heap.size ∧ w.heap.size + 1 < w1.heap.size := ⟨by omega, by omega, by omega⟩; obtain ⟨B, hBe, hBl, hc2, hf2⟩ := bfA hb; (try simp only [World.size_alloc, World.size_setCell, World.size_drew, World.heap_drewN] at hBe); have hB : Below w.heap.size w w1 := bstep (by exact below_) hb side_; clear hs hb) | (go_at_call 71; (with_reducible refine (stimes_any a ⟨a.re, -a.im, a.den⟩ _).mono ?_); rintro e w1 ⟨rfl, hb⟩; obtain ⟨hc, hf⟩ := bf hb (w.heap.size + 1 + 1) side_; have hs := hb.size; (try simp only [World.size_alloc, World.size_setCell, World.size_drew, World.heap_drewN] at hs); have hl : w.heap.size ≤ w1.heap.size ∧ w.heap.size < w1.heap.size ∧ w.heap.size + 1 < w1.heap.size := ⟨by omega, by omega, by omega⟩; obtain ⟨B, hBe, hBl, hc2, hf2⟩ := bfA hb; (try simp only [World.size_alloc, World.size_setCell, World.size_drew, World.heap_drewN] at hBe); have hB : Below w.heap.size w w1 := bstep (by exact below_) hb side_; clear hs hb))
    exact bodyPost_ret (v := frb (timesI a ⟨a.re, -a.im, a.den⟩)) (by simp [results, Tryz.results94, go_sem, *]) rfl ⟨rfl, by exact below_⟩
set_option maxHeartbeats 1000000 in
theorem smake_any (re im den : Int) (w : World) :
    Calls Tryz.prog 118 #[.int .i64 re, .int .i64 im, .int .i64 den] w fun e w' => e = .returned (frb (makeI re im den)) ∧ Below w.heap.size w w' := by
  have ARMS : True := trivial
  cases h1 : inB den 1 1000000000000000000
  · have e : makeI re im den = none := by simp [makeI, h1]
    rw [e]; clear e
    go_enter Tryz.func118, Tryz.ntmps118
    go_wp2_with (first | (go_at_call 100; refine (l6in_f _ _ _ _ (by assumption)).mono ?_; rintro e w1 ⟨rfl, rfl⟩))
    exact bodyPost_ret (v := frb none) (by simp [results, Tryz.results118, go_sem, *]) rfl ⟨rfl, by exact below_⟩
  cases h2 : inB re (-1000000000000000000) 1000000000000000000
  · have e : makeI re im den = none := by simp [makeI, h2]
    rw [e]; clear e
    go_enter Tryz.func118, Tryz.ntmps118
    go_wp2_with (first | (go_at_call 100; refine (l6in_t _ _ _ _ (by assumption)).mono ?_; rintro e w1 ⟨rfl, rfl⟩) | (go_at_call 100; refine (l6in_f _ _ _ _ (by assumption)).mono ?_; rintro e w1 ⟨rfl, rfl⟩))
    exact bodyPost_ret (v := frb none) (by simp [results, Tryz.results118, go_sem, *]) rfl ⟨rfl, by exact below_⟩
  cases h3 : inB im (-1000000000000000000) 1000000000000000000
  · have e : makeI re im den = none := by simp [makeI, h3]
    rw [e]; clear e
    go_enter Tryz.func118, Tryz.ntmps118
    go_wp2_with (first | (go_at_call 100; refine (l6in_t _ _ _ _ (by assumption)).mono ?_; rintro e w1 ⟨rfl, rfl⟩) | (go_at_call 100; refine (l6in_f _ _ _ _ (by assumption)).mono ?_; rintro e w1 ⟨rfl, rfl⟩))
    exact bodyPost_ret (v := frb none) (by simp [results, Tryz.results118, go_sem, *]) rfl ⟨rfl, by exact below_⟩
  have e : makeI re im den = lowI re im den := by simp [makeI, h1, h2, h3]
  rw [e]; clear e
  have k1 := h1; have k2 := h2; have k3 := h3
  rw [inB_iff] at k1 k2 k3
  obtain ⟨k1, k1'⟩ := k1; obtain ⟨k2, k2'⟩ := k2; obtain ⟨k3, k3'⟩ := k3
  go_enter Tryz.func118, Tryz.ntmps118
  go_wp2_with (first | (go_at_call 100; refine (l6in_t _ _ _ _ (by assumption)).mono ?_; rintro e w1 ⟨rfl, rfl⟩) | (go_at_call 90; (with_reducible refine (slow_any _ _ _ _ (by omega) (by omega) (by omega) (by omega) (by omega) (by omega)).mono ?_); rintro e w1 ⟨rfl, hb⟩; obtain ⟨hc, hf⟩ := bf hb (w.heap.size + 1) side_; have hs := hb.size; (try simp only [World.size_alloc, World.size_setCell, World.size_drew, World.heap_drewN] at hs); have hl : w.heap.size ≤ w1.heap.size ∧ w.heap.size < w1.heap.size := ⟨by omega, by omega⟩; have hB : Below w.heap.size w w1 := bstep (by exact below_) hb side_; clear hs hb))
  exact bodyPost_ret (v := frb (lowI re im den)) (by simp [results, Tryz.results118, go_sem, *]) rfl ⟨rfl, by exact below_⟩
end
section
open Go.RowKit
/-- Below block number B, but for block bs, the world w' is as w was. -/
structure BelX (B bs : Nat) (w w' : World) : Prop where
  os : w'.os = w.os
  tape : w'.tape = w.tape
  output : w'.output = w.output
  size : w.heap.size ≤ w'.heap.size
  block : ∀ k, k < B → k ≠ bs → w'.heap[k]? = w.heap[k]?
theorem BelX.refl (B bs : Nat) (w : World) : BelX B bs w w := ⟨rfl, rfl, rfl, Nat.le_refl _, fun _ _ _ => rfl⟩
theorem BelX.trans {B bs : Nat} {a b c : World} (h : BelX B bs a b) (k : BelX B bs b c) : BelX B bs a c :=
  ⟨k.os.trans h.os, k.tape.trans h.tape, k.output.trans h.output, Nat.le_trans h.size k.size, fun i hi hn => (k.block i hi hn).trans (h.block i hi hn)⟩
theorem BelX.mono {B B' bs : Nat} {w w' : World} (h : BelX B bs w w') (hB : B' ≤ B) : BelX B' bs w w' := ⟨h.os, h.tape, h.output, h.size, fun k hk hn => h.block k (Nat.lt_of_lt_of_le hk hB) hn⟩
theorem BelX.of {B bs : Nat} {w w' : World} (h : Below B w w') : BelX B bs w w' := ⟨h.os, h.tape, h.output, h.size, fun k hk _ => h.block k hk⟩
theorem BelX.below {B bs : Nat} {w w' : World} (h : BelX B bs w w') (hb : B ≤ bs) : Below B w w' := ⟨h.os, h.tape, h.output, h.size, fun k hk => h.block k hk (by omega)⟩
theorem BelX.alloc {B bs : Nat} {a w : World} (h : BelX B bs a w) (hB : B ≤ w.heap.size) (o : Obj) : BelX B bs a (w.alloc o) := h.trans (.of ((Below.refl _ _).alloc hB o))
theorem BelX.drew {B bs : Nat} {a w : World} (h : BelX B bs a w) : BelX B bs a w.drew := h.trans (.of ((Below.refl _ _).drew))
theorem BelX.drewN {B bs : Nat} {a w : World} (h : BelX B bs a w) (n : Nat) : BelX B bs a (w.drewN n) := h.trans (.of (below_drewN (Below.refl _ _) n))
theorem BelX.setCell {B bs : Nat} {a w : World} (h : BelX B bs a w) {p : Addr} (hp : B ≤ p.block) (u : Value) : BelX B bs a (w.setCell p u) := h.trans (.of ((Below.refl _ _).setCell hp u))
theorem BelX.setSum {B bs o : Nat} {a w : World} (h : BelX B bs a w) (u : Value) : BelX B bs a (w.setCell ⟨bs, o, none⟩ u) :=
  h.trans ⟨rfl, rfl, rfl, by simp, fun k _ hn => Below.heap_setCell _ _ _ _ hn⟩
theorem BelX.step {B bs : Nat} {w W w1 : World} (h : BelX B bs w W) (hb : BelX W.heap.size bs W w1) (hB : B ≤ W.heap.size) : BelX B bs w w1 := h.trans (hb.mono hB)
theorem BelX.stepB {B bs : Nat} {w W w1 : World} (h : BelX B bs w W) (hb : Below W.heap.size W w1) (hB : B ≤ W.heap.size) : BelX B bs w w1 := h.trans (.of (hb.mono hB))
theorem bfxL {W w1 : World} {bs : Nat} (hb : BelX W.heap.size bs W w1) (hB : bs ≤ W.heap.size) : (∀ b o, b < bs → w1.cell? ⟨b, o, none⟩ = W.cell? ⟨b, o, none⟩) ∧ (∀ b o, b < bs → w1.frozen? ⟨b, o, none⟩ = W.frozen? ⟨b, o, none⟩) :=
  ⟨fun b o h => World.cell?_of_block (w := W) (hb.block b (Nat.lt_of_lt_of_le h hB) (by omega)), fun b o h => World.frozen?_of_block (w := W) (hb.block b (Nat.lt_of_lt_of_le h hB) (by omega))⟩
theorem bfxU {W w1 : World} {bs : Nat} (hb : BelX W.heap.size bs W w1) (B : Nat) (hB : B ≤ W.heap.size) : (∀ b o, bs < b → b < B → w1.cell? ⟨b, o, none⟩ = W.cell? ⟨b, o, none⟩) ∧ (∀ b o, bs < b → b < B → w1.frozen? ⟨b, o, none⟩ = W.frozen? ⟨b, o, none⟩) :=
  ⟨fun b o hn h => World.cell?_of_block (w := W) (hb.block b (Nat.lt_of_lt_of_le h hB) (by omega)), fun b o hn h => World.frozen?_of_block (w := W) (hb.block b (Nat.lt_of_lt_of_le h hB) (by omega))⟩
theorem bfxO {W w1 : World} {bs : Nat} (hb : BelX W.heap.size bs W w1) (lo B : Nat) (hl : bs < lo) (hB : B ≤ W.heap.size) : (∀ b o, lo < b + 1 → b < B → w1.cell? ⟨b, o, none⟩ = W.cell? ⟨b, o, none⟩) ∧ (∀ b o, lo < b + 1 → b < B → w1.frozen? ⟨b, o, none⟩ = W.frozen? ⟨b, o, none⟩) :=
  ⟨fun b o hn h => World.cell?_of_block (w := W) (hb.block b (Nat.lt_of_lt_of_le h hB) (by omega)), fun b o hn h => World.frozen?_of_block (w := W) (hb.block b (Nat.lt_of_lt_of_le h hB) (by omega))⟩

/-- Block bs is a reckoning; bad: whether something was none. -/
def SumIs (w : World) (bs : Nat) (bad : Bool) : Prop := w.heap[bs]? = some (.cells #[.bool bad] 64 (0, 0))
section
variable {w w' : World} {bs : Nat} {b : Bool}
theorem SumIs.lt (h : SumIs w bs b) : bs < w.heap.size := by
  rcases Nat.lt_or_ge bs w.heap.size with hlt | hge
  · exact hlt
  · unfold SumIs at h; rw [Array.getElem?_eq_none hge] at h; cases h
theorem SumIs.cell (h : SumIs w bs b) : w.cell? ⟨bs, 0, none⟩ = some (.bool b) := by unfold SumIs at h; simp [World.cell?, h]
theorem SumIs.frozen (h : SumIs w bs b) : w.frozen? ⟨bs, 0, none⟩ = false := by unfold SumIs at h; simp [World.frozen?, h]
theorem SumIs.drew (h : SumIs w bs b) : SumIs w.drew bs b := h
theorem SumIs.drewN (h : SumIs w bs b) (n : Nat) : SumIs (w.drewN n) bs b := h
theorem SumIs.alloc (h : SumIs w bs b) (o : Obj) : SumIs (w.alloc o) bs b := (Below.heap_alloc w o bs h.lt).trans h
theorem SumIs.set (h : SumIs w bs b) (c : Bool) : SumIs (w.setCell ⟨bs, 0, none⟩ (.bool c)) bs c := by
  unfold SumIs at h ⊢
  simp [World.setCell, Array.getElem?_modify, h]
theorem SumIs.far (h : SumIs w bs b) {p : Addr} (hp : bs ≠ p.block) (u : Value) : SumIs (w.setCell p u) bs b := (Below.heap_setCell w p u bs hp).trans h
theorem SumIs.below {B : Nat} (h : SumIs w bs b) (hb : Below B w w') (hlt : bs < B) : SumIs w' bs b := (hb.block bs hlt).trans h
theorem SumIs.new (w : World) (b : Bool) : SumIs (w.alloc (.cells #[.bool b] 64)) w.heap.size b := by show (w.heap.push _)[w.heap.size]? = _; simp
theorem SumIs.new' {w : World} {b : Bool} {bs : Nat} (h : bs = w.heap.size) : SumIs (w.alloc (.cells #[.bool b] 64)) bs b := h ▸ SumIs.new w b
def SumEx (w : World) (bs : Nat) : Prop := ∃ b, SumIs w bs b
theorem SumEx.of (h : SumIs w bs b) : SumEx w bs := ⟨b, h⟩
theorem SumEx.drew (h : SumEx w bs) : SumEx w.drew bs := h
theorem SumEx.drewN (h : SumEx w bs) (n : Nat) : SumEx (w.drewN n) bs := h
theorem SumEx.alloc (h : SumEx w bs) (o : Obj) : SumEx (w.alloc o) bs := ⟨_, h.choose_spec.alloc o⟩
theorem SumEx.far (h : SumEx w bs) {p : Addr} (hp : bs ≠ p.block) (u : Value) : SumEx (w.setCell p u) bs := ⟨_, h.choose_spec.far hp u⟩
theorem SumIs.setEx (h : SumEx w bs) (c : Bool) : SumIs (w.setCell ⟨bs, 0, none⟩ (.bool c)) bs c := h.choose_spec.set c
theorem SumIs.uniq {c : Bool} (h : SumIs w bs b) (k : SumIs w bs c) : b = c := by
  unfold SumIs at h k; rw [h] at k; simpa using k
theorem SumIs.sub (h : SumIs w bs b) {c : Bool} (e : b = c) : SumIs w bs c := e ▸ h
end
set_option maxHeartbeats 400000 in
theorem keep_t (a : Fr) (bs : Nat) (bad : Bool) (w : World) (hs : SumIs w bs bad) :
    Calls Tryz.prog 76 #[.pointer (some ⟨bs, 0, none⟩), frv a, .bool true] w fun e w' => e = .returned (frv a) ∧ SumIs w' bs bad ∧ BelX w.heap.size bs w w' := by
  have hlt := hs.lt
  go_enter Tryz.func76, Tryz.ntmps76
  go_wp2
  exact bodyPost_ret (v := frv a) (by simp [results, Tryz.results76, go_sem, *]) rfl ⟨rfl, by exact sum_, by exact belx_⟩
set_option maxHeartbeats 400000 in
theorem keep_f (a : Fr) (bs : Nat) (bad : Bool) (w : World) (hs : SumIs w bs bad) :
    Calls Tryz.prog 76 #[.pointer (some ⟨bs, 0, none⟩), frv a, .bool false] w fun e w' => e = .returned (frv ⟨0, 0, 0⟩) ∧ SumIs w' bs true ∧ BelX w.heap.size bs w w' := by
  have hlt := hs.lt
  have hcs := hs.cell
  have hfs := hs.frozen
  have hne : w.heap.size ≠ bs ∧ w.heap.size + 1 ≠ bs := ⟨by omega, by omega⟩
  go_enter Tryz.func76, Tryz.ntmps76
  go_wp2
  exact bodyPost_ret (v := frv ⟨0, 0, 0⟩) (by simp [results, Tryz.results76, go_sem, *]) rfl ⟨rfl, by exact sum_, by exact belx_⟩
theorem keep_any (o : Option Fr) (bs : Nat) (bad : Bool) (w : World) (hs : SumIs w bs bad) :
    Calls Tryz.prog 76 #[.pointer (some ⟨bs, 0, none⟩), frv (o.getD ⟨0, 0, 0⟩), .bool o.isSome] w fun e w' => e = .returned (frv (o.getD ⟨0, 0, 0⟩)) ∧ SumIs w' bs (bad || o.isNone) ∧ BelX w.heap.size bs w w' := by
  cases o with
  | none => exact (keep_f _ bs bad w hs).mono fun e w' ⟨h1, h2, h3⟩ => ⟨h1, h2.sub (by simp), h3⟩
  | some a => exact (keep_t a bs bad w hs).mono fun e w' ⟨h1, h2, h3⟩ => ⟨h1, h2.sub (by simp), h3⟩
theorem x_keep (o : Option Fr) (bs : Nat) (w : World) (hs : SumEx w bs) :
    Calls Tryz.prog 76 #[.pointer (some ⟨bs, 0, none⟩), frv (o.getD ⟨0, 0, 0⟩), .bool o.isSome] w fun e w' => e = .returned (frv (o.getD ⟨0, 0, 0⟩)) ∧ (∀ c, SumIs w bs c → SumIs w' bs (c || o.isNone)) ∧ BelX w.heap.size bs w w' := by
  obtain ⟨b0, hb⟩ := hs
  exact (keep_any o bs b0 w hb).mono fun e w' ⟨h1, h2, h3⟩ => ⟨h1, fun c hc => by rw [← hb.uniq hc]; exact h2, h3⟩
set_option maxHeartbeats 400000 in
theorem s_add (a b : Fr) (bs : Nat) (bad : Bool) (w : World) (hs : SumIs w bs bad) :
    Calls Tryz.prog 45 #[.pointer (some ⟨bs, 0, none⟩), frv a, frv b] w fun e w' => e = .returned (frv ((addI a b).getD ⟨0, 0, 0⟩)) ∧ SumIs w' bs (bad || (addI a b).isNone) ∧ BelX w.heap.size bs w w' := by
  have hlt := hs.lt
  have hne : w.heap.size ≠ bs ∧ w.heap.size + 1 ≠ bs ∧ w.heap.size + 1 + 1 ≠ bs := ⟨by omega, by omega, by omega⟩
  go_enter Tryz.func45, Tryz.ntmps45
  go_wp2_with (first | (go_at_call 82; (with_reducible refine (add_any a b _).mono ?_); rintro e w1 ⟨rfl, hb⟩; obtain ⟨hc, hf⟩ := bf hb (w.heap.size + 1 + 1 + 1) side_; have hs := hb.size; (try simp only [World.size_alloc, World.size_setCell, World.size_drew, World.heap_drewN] at hs); have hl : w.heap.size ≤ w1.heap.size ∧ w.heap.size < w1.heap.size ∧ w.heap.size + 1 < w1.heap.size ∧ w.heap.size + 1 + 1 < w1.heap.size := ⟨by omega, by omega, by omega, by omega⟩; have hB : Below w.heap.size w w1 := bstep (by exact below_) hb side_; have hs1 : SumIs w1 (bs) _ := SumIs.below (by exact sum_) hb side_; have hcs1 := hs1.cell; have hfs1 := hs1.frozen; clear hs hb) | (go_at_call 76; (with_reducible refine (x_keep (addI a b) bs _ (by exact sum_)).mono ?_); rintro e w1 ⟨rfl, hu, hx⟩; have hs1 := hu _ (by exact sum_); clear hu; obtain ⟨hc, hf⟩ := bfxO hx (w.heap.size) (w.heap.size + 1 + 1 + 1) side_ side_; have hs2 := hx.size; (try simp only [World.size_alloc, World.size_setCell, World.size_drew, World.heap_drewN] at hs2); have hl : w.heap.size ≤ w1.heap.size ∧ w.heap.size < w1.heap.size ∧ w.heap.size + 1 < w1.heap.size ∧ w.heap.size + 1 + 1 < w1.heap.size := ⟨by omega, by omega, by omega, by omega⟩; have hcs1 := hs1.cell; have hfs1 := hs1.frozen; have hX : BelX w.heap.size bs w w1 := BelX.step (by exact belx_) hx side_; clear hs2 hx))
  exact bodyPost_ret (v := frv ((addI a b).getD ⟨0, 0, 0⟩)) (by simp [results, Tryz.results45, go_sem, *]) rfl ⟨rfl, by exact sum_, by exact belx_⟩

theorem x_add (a b : Fr) (bs : Nat) (w : World) (hs : SumEx w bs) :
    Calls Tryz.prog 45 #[.pointer (some ⟨bs, 0, none⟩), frv a, frv b] w fun e w' => e = .returned (frv ((addI a b).getD ⟨0, 0, 0⟩)) ∧ (∀ c, SumIs w bs c → SumIs w' bs (c || (addI a b).isNone)) ∧ BelX w.heap.size bs w w' := by
  obtain ⟨b0, hb⟩ := hs
  exact (s_add a b bs b0 w hb).mono fun e w' ⟨h1, h2, h3⟩ => ⟨h1, fun c hc => by rw [← hb.uniq hc]; exact h2, h3⟩
set_option maxHeartbeats 400000 in
theorem s_times (a b : Fr) (bs : Nat) (bad : Bool) (w : World) (hs : SumIs w bs bad) :
    Calls Tryz.prog 37 #[.pointer (some ⟨bs, 0, none⟩), frv a, frv b] w fun e w' => e = .returned (frv ((timesI a b).getD ⟨0, 0, 0⟩)) ∧ SumIs w' bs (bad || (timesI a b).isNone) ∧ BelX w.heap.size bs w w' := by
  have hlt := hs.lt
  have hne : w.heap.size ≠ bs ∧ w.heap.size + 1 ≠ bs ∧ w.heap.size + 1 + 1 ≠ bs := ⟨by omega, by omega, by omega⟩
  go_enter Tryz.func37, Tryz.ntmps37
  go_wp2_with (first | (go_at_call 77; (with_reducible refine (times_any a b _).mono ?_); rintro e w1 ⟨rfl, hb⟩; obtain ⟨hc, hf⟩ := bf hb (w.heap.size + 1 + 1 + 1) side_; have hs := hb.size; (try simp only [World.size_alloc, World.size_setCell, World.size_drew, World.heap_drewN] at hs); have hl : w.heap.size ≤ w1.heap.size ∧ w.heap.size < w1.heap.size ∧ w.heap.size + 1 < w1.heap.size ∧ w.heap.size + 1 + 1 < w1.heap.size := ⟨by omega, by omega, by omega, by omega⟩; have hB : Below w.heap.size w w1 := bstep (by exact below_) hb side_; have hs1 : SumIs w1 (bs) _ := SumIs.below (by exact sum_) hb side_; have hcs1 := hs1.cell; have hfs1 := hs1.frozen; clear hs hb) | (go_at_call 76; (with_reducible refine (x_keep (timesI a b) bs _ (by exact sum_)).mono ?_); rintro e w1 ⟨rfl, hu, hx⟩; have hs1 := hu _ (by exact sum_); clear hu; obtain ⟨hc, hf⟩ := bfxO hx (w.heap.size) (w.heap.size + 1 + 1 + 1) side_ side_; have hs2 := hx.size; (try simp only [World.size_alloc, World.size_setCell, World.size_drew, World.heap_drewN] at hs2); have hl : w.heap.size ≤ w1.heap.size ∧ w.heap.size < w1.heap.size ∧ w.heap.size + 1 < w1.heap.size ∧ w.heap.size + 1 + 1 < w1.heap.size := ⟨by omega, by omega, by omega, by omega⟩; have hcs1 := hs1.cell; have hfs1 := hs1.frozen; have hX : BelX w.heap.size bs w w1 := BelX.step (by exact belx_) hx side_; clear hs2 hx))
  exact bodyPost_ret (v := frv ((timesI a b).getD ⟨0, 0, 0⟩)) (by simp [results, Tryz.results37, go_sem, *]) rfl ⟨rfl, by exact sum_, by exact belx_⟩

theorem x_times (a b : Fr) (bs : Nat) (w : World) (hs : SumEx w bs) :
    Calls Tryz.prog 37 #[.pointer (some ⟨bs, 0, none⟩), frv a, frv b] w fun e w' => e = .returned (frv ((timesI a b).getD ⟨0, 0, 0⟩)) ∧ (∀ c, SumIs w bs c → SumIs w' bs (c || (timesI a b).isNone)) ∧ BelX w.heap.size bs w w' := by
  obtain ⟨b0, hb⟩ := hs
  exact (s_times a b bs b0 w hb).mono fun e w' ⟨h1, h2, h3⟩ => ⟨h1, fun c hc => by rw [← hb.uniq hc]; exact h2, h3⟩
set_option maxHeartbeats 400000 in
theorem s_less (a b : Fr) (bs : Nat) (bad : Bool) (w : World) (hs : SumIs w bs bad) :
    Calls Tryz.prog 46 #[.pointer (some ⟨bs, 0, none⟩), frv a, frv b] w fun e w' => e = .returned (frv ((lessI a b).getD ⟨0, 0, 0⟩)) ∧ SumIs w' bs (bad || (lessI a b).isNone) ∧ BelX w.heap.size bs w w' := by
  have hlt := hs.lt
  have hne : w.heap.size ≠ bs ∧ w.heap.size + 1 ≠ bs ∧ w.heap.size + 1 + 1 ≠ bs := ⟨by omega, by omega, by omega⟩
  go_enter Tryz.func46, Tryz.ntmps46
  go_wp2_with (first | (go_at_call 83; (with_reducible refine (less_any a b _).mono ?_); rintro e w1 ⟨rfl, hb⟩; obtain ⟨hc, hf⟩ := bf hb (w.heap.size + 1 + 1 + 1) side_; have hs := hb.size; (try simp only [World.size_alloc, World.size_setCell, World.size_drew, World.heap_drewN] at hs); have hl : w.heap.size ≤ w1.heap.size ∧ w.heap.size < w1.heap.size ∧ w.heap.size + 1 < w1.heap.size ∧ w.heap.size + 1 + 1 < w1.heap.size := ⟨by omega, by omega, by omega, by omega⟩; have hB : Below w.heap.size w w1 := bstep (by exact below_) hb side_; have hs1 : SumIs w1 (bs) _ := SumIs.below (by exact sum_) hb side_; have hcs1 := hs1.cell; have hfs1 := hs1.frozen; clear hs hb) | (go_at_call 76; (with_reducible refine (x_keep (lessI a b) bs _ (by exact sum_)).mono ?_); rintro e w1 ⟨rfl, hu, hx⟩; have hs1 := hu _ (by exact sum_); clear hu; obtain ⟨hc, hf⟩ := bfxO hx (w.heap.size) (w.heap.size + 1 + 1 + 1) side_ side_; have hs2 := hx.size; (try simp only [World.size_alloc, World.size_setCell, World.size_drew, World.heap_drewN] at hs2); have hl : w.heap.size ≤ w1.heap.size ∧ w.heap.size < w1.heap.size ∧ w.heap.size + 1 < w1.heap.size ∧ w.heap.size + 1 + 1 < w1.heap.size := ⟨by omega, by omega, by omega, by omega⟩; have hcs1 := hs1.cell; have hfs1 := hs1.frozen; have hX : BelX w.heap.size bs w w1 := BelX.step (by exact belx_) hx side_; clear hs2 hx))
  exact bodyPost_ret (v := frv ((lessI a b).getD ⟨0, 0, 0⟩)) (by simp [results, Tryz.results46, go_sem, *]) rfl ⟨rfl, by exact sum_, by exact belx_⟩

theorem x_less (a b : Fr) (bs : Nat) (w : World) (hs : SumEx w bs) :
    Calls Tryz.prog 46 #[.pointer (some ⟨bs, 0, none⟩), frv a, frv b] w fun e w' => e = .returned (frv ((lessI a b).getD ⟨0, 0, 0⟩)) ∧ (∀ c, SumIs w bs c → SumIs w' bs (c || (lessI a b).isNone)) ∧ BelX w.heap.size bs w w' := by
  obtain ⟨b0, hb⟩ := hs
  exact (s_less a b bs b0 w hb).mono fun e w' ⟨h1, h2, h3⟩ => ⟨h1, fun c hc => by rw [← hb.uniq hc]; exact h2, h3⟩
set_option maxHeartbeats 400000 in
theorem s_over (a b : Fr) (bs : Nat) (bad : Bool) (w : World) (hs : SumIs w bs bad) (hG : GZ w) :
    Calls Tryz.prog 43 #[.pointer (some ⟨bs, 0, none⟩), frv a, frv b] w fun e w' => e = .returned (frv ((overI a b).getD ⟨0, 0, 0⟩)) ∧ SumIs w' bs (bad || (overI a b).isNone) ∧ BelX w.heap.size bs w w' := by
  have hlt := hs.lt
  have hne : w.heap.size ≠ bs ∧ w.heap.size + 1 ≠ bs ∧ w.heap.size + 1 + 1 ≠ bs := ⟨by omega, by omega, by omega⟩
  go_enter Tryz.func43, Tryz.ntmps43
  go_wp2_with (first | (go_at_call 81; (with_reducible refine (over_any a b _ (hG.below (by exact below_))).mono ?_); rintro e w1 ⟨rfl, hb⟩; obtain ⟨hc, hf⟩ := bf hb (w.heap.size + 1 + 1 + 1) side_; have hs := hb.size; (try simp only [World.size_alloc, World.size_setCell, World.size_drew, World.heap_drewN] at hs); have hl : w.heap.size ≤ w1.heap.size ∧ w.heap.size < w1.heap.size ∧ w.heap.size + 1 < w1.heap.size ∧ w.heap.size + 1 + 1 < w1.heap.size := ⟨by omega, by omega, by omega, by omega⟩; have hB : Below w.heap.size w w1 := bstep (by exact below_) hb side_; have hs1 : SumIs w1 (bs) _ := SumIs.below (by exact sum_) hb side_; have hcs1 := hs1.cell; have hfs1 := hs1.frozen; clear hs hb) | (go_at_call 76; (with_reducible refine (x_keep (overI a b) bs _ (by exact sum_)).mono ?_); rintro e w1 ⟨rfl, hu, hx⟩; have hs1 := hu _ (by exact sum_); clear hu; obtain ⟨hc, hf⟩ := bfxO hx (w.heap.size) (w.heap.size + 1 + 1 + 1) side_ side_; have hs2 := hx.size; (try simp only [World.size_alloc, World.size_setCell, World.size_drew, World.heap_drewN] at hs2); have hl : w.heap.size ≤ w1.heap.size ∧ w.heap.size < w1.heap.size ∧ w.heap.size + 1 < w1.heap.size ∧ w.heap.size + 1 + 1 < w1.heap.size := ⟨by omega, by omega, by omega, by omega⟩; have hcs1 := hs1.cell; have hfs1 := hs1.frozen; have hX : BelX w.heap.size bs w w1 := BelX.step (by exact belx_) hx side_; clear hs2 hx))
  exact bodyPost_ret (v := frv ((overI a b).getD ⟨0, 0, 0⟩)) (by simp [results, Tryz.results43, go_sem, *]) rfl ⟨rfl, by exact sum_, by exact belx_⟩

theorem x_over (a b : Fr) (bs : Nat) (w : World) (hs : SumEx w bs) (hG : GZ w) :
    Calls Tryz.prog 43 #[.pointer (some ⟨bs, 0, none⟩), frv a, frv b] w fun e w' => e = .returned (frv ((overI a b).getD ⟨0, 0, 0⟩)) ∧ (∀ c, SumIs w bs c → SumIs w' bs (c || (overI a b).isNone)) ∧ BelX w.heap.size bs w w' := by
  obtain ⟨b0, hb⟩ := hs
  exact (s_over a b bs b0 w hb hG).mono fun e w' ⟨h1, h2, h3⟩ => ⟨h1, fun c hc => by rw [← hb.uniq hc]; exact h2, h3⟩
set_option maxHeartbeats 400000 in
theorem s_mirror (a : Fr) (bs : Nat) (bad : Bool) (w : World) (hs : SumIs w bs bad) :
    Calls Tryz.prog 41 #[.pointer (some ⟨bs, 0, none⟩), frv a] w fun e w' => e = .returned (frv ((mirrorI a).getD ⟨0, 0, 0⟩)) ∧ SumIs w' bs (bad || (mirrorI a).isNone) ∧ BelX w.heap.size bs w w' := by
  have hlt := hs.lt
  have hne : w.heap.size ≠ bs ∧ w.heap.size + 1 ≠ bs ∧ w.heap.size + 1 + 1 ≠ bs := ⟨by omega, by omega, by omega⟩
  go_enter Tryz.func41, Tryz.ntmps41
  go_wp2_with (first | (go_at_call 80; (with_reducible refine (mirror_any a _).mono ?_); rintro e w1 ⟨rfl, hb⟩; obtain ⟨hc, hf⟩ := bf hb (w.heap.size + 1 + 1) side_; have hs := hb.size; (try simp only [World.size_alloc, World.size_setCell, World.size_drew, World.heap_drewN] at hs); have hl : w.heap.size ≤ w1.heap.size ∧ w.heap.size < w1.heap.size ∧ w.heap.size + 1 < w1.heap.size := ⟨by omega, by omega, by omega⟩; have hB : Below w.heap.size w w1 := bstep (by exact below_) hb side_; have hs1 : SumIs w1 (bs) _ := SumIs.below (by exact sum_) hb side_; have hcs1 := hs1.cell; have hfs1 := hs1.frozen; clear hs hb) | (go_at_call 76; (with_reducible refine (x_keep (mirrorI a) bs _ (by exact sum_)).mono ?_); rintro e w1 ⟨rfl, hu, hx⟩; have hs1 := hu _ (by exact sum_); clear hu; obtain ⟨hc, hf⟩ := bfxO hx (w.heap.size) (w.heap.size + 1 + 1) side_ side_; have hs2 := hx.size; (try simp only [World.size_alloc, World.size_setCell, World.size_drew, World.heap_drewN] at hs2); have hl : w.heap.size ≤ w1.heap.size ∧ w.heap.size < w1.heap.size ∧ w.heap.size + 1 < w1.heap.size := ⟨by omega, by omega, by omega⟩; have hcs1 := hs1.cell; have hfs1 := hs1.frozen; have hX : BelX w.heap.size bs w w1 := BelX.step (by exact belx_) hx side_; clear hs2 hx))
  exact bodyPost_ret (v := frv ((mirrorI a).getD ⟨0, 0, 0⟩)) (by simp [results, Tryz.results41, go_sem, *]) rfl ⟨rfl, by exact sum_, by exact belx_⟩

theorem x_mirror (a : Fr) (bs : Nat) (w : World) (hs : SumEx w bs) :
    Calls Tryz.prog 41 #[.pointer (some ⟨bs, 0, none⟩), frv a] w fun e w' => e = .returned (frv ((mirrorI a).getD ⟨0, 0, 0⟩)) ∧ (∀ c, SumIs w bs c → SumIs w' bs (c || (mirrorI a).isNone)) ∧ BelX w.heap.size bs w w' := by
  obtain ⟨b0, hb⟩ := hs
  exact (s_mirror a bs b0 w hb).mono fun e w' ⟨h1, h2, h3⟩ => ⟨h1, fun c hc => by rw [← hb.uniq hc]; exact h2, h3⟩
set_option maxHeartbeats 400000 in
theorem s_power (a : Fr) (bs : Nat) (bad : Bool) (w : World) (hs : SumIs w bs bad) :
    Calls Tryz.prog 39 #[.pointer (some ⟨bs, 0, none⟩), frv a] w fun e w' => e = .returned (frv ((powerI a).getD ⟨0, 0, 0⟩)) ∧ SumIs w' bs (bad || (powerI a).isNone) ∧ BelX w.heap.size bs w w' := by
  have hlt := hs.lt
  have hne : w.heap.size ≠ bs ∧ w.heap.size + 1 ≠ bs ∧ w.heap.size + 1 + 1 ≠ bs := ⟨by omega, by omega, by omega⟩
  go_enter Tryz.func39, Tryz.ntmps39
  go_wp2_with (first | (go_at_call 79; (with_reducible refine (power_any a _).mono ?_); rintro e w1 ⟨rfl, hb⟩; obtain ⟨hc, hf⟩ := bf hb (w.heap.size + 1 + 1) side_; have hs := hb.size; (try simp only [World.size_alloc, World.size_setCell, World.size_drew, World.heap_drewN] at hs); have hl : w.heap.size ≤ w1.heap.size ∧ w.heap.size < w1.heap.size ∧ w.heap.size + 1 < w1.heap.size := ⟨by omega, by omega, by omega⟩; have hB : Below w.heap.size w w1 := bstep (by exact below_) hb side_; have hs1 : SumIs w1 (bs) _ := SumIs.below (by exact sum_) hb side_; have hcs1 := hs1.cell; have hfs1 := hs1.frozen; clear hs hb) | (go_at_call 76; (with_reducible refine (x_keep (powerI a) bs _ (by exact sum_)).mono ?_); rintro e w1 ⟨rfl, hu, hx⟩; have hs1 := hu _ (by exact sum_); clear hu; obtain ⟨hc, hf⟩ := bfxO hx (w.heap.size) (w.heap.size + 1 + 1) side_ side_; have hs2 := hx.size; (try simp only [World.size_alloc, World.size_setCell, World.size_drew, World.heap_drewN] at hs2); have hl : w.heap.size ≤ w1.heap.size ∧ w.heap.size < w1.heap.size ∧ w.heap.size + 1 < w1.heap.size := ⟨by omega, by omega, by omega⟩; have hcs1 := hs1.cell; have hfs1 := hs1.frozen; have hX : BelX w.heap.size bs w w1 := BelX.step (by exact belx_) hx side_; clear hs2 hx))
  exact bodyPost_ret (v := frv ((powerI a).getD ⟨0, 0, 0⟩)) (by simp [results, Tryz.results39, go_sem, *]) rfl ⟨rfl, by exact sum_, by exact belx_⟩

theorem x_power (a : Fr) (bs : Nat) (w : World) (hs : SumEx w bs) :
    Calls Tryz.prog 39 #[.pointer (some ⟨bs, 0, none⟩), frv a] w fun e w' => e = .returned (frv ((powerI a).getD ⟨0, 0, 0⟩)) ∧ (∀ c, SumIs w bs c → SumIs w' bs (c || (powerI a).isNone)) ∧ BelX w.heap.size bs w w' := by
  obtain ⟨b0, hb⟩ := hs
  exact (s_power a bs b0 w hb).mono fun e w' ⟨h1, h2, h3⟩ => ⟨h1, fun c hc => by rw [← hb.uniq hc]; exact h2, h3⟩
set_option maxHeartbeats 400000 in
theorem need_any (ok : Bool) (bs : Nat) (bad : Bool) (w : World) (hs : SumIs w bs bad) :
    Calls Tryz.prog 26 #[.pointer (some ⟨bs, 0, none⟩), .bool ok] w fun e w' => e = .returned (.pointer (some ⟨bs, 0, none⟩)) ∧ SumIs w' bs (bad || !ok) ∧ BelX w.heap.size bs w w' := by
  have hlt := hs.lt
  have hcs := hs.cell
  have hfs := hs.frozen
  cases ok
  · go_enter Tryz.func26, Tryz.ntmps26
    go_wp2
    go_ret
    exact ⟨rfl, (hs.set true).sub (by simp), by exact belx_⟩
  · go_enter Tryz.func26, Tryz.ntmps26
    go_wp2
    go_ret
    exact ⟨rfl, hs.sub (by simp), by exact belx_⟩
theorem x_need (ok : Bool) (bs : Nat) (w : World) (hs : SumEx w bs) :
    Calls Tryz.prog 26 #[.pointer (some ⟨bs, 0, none⟩), .bool ok] w fun e w' => e = .returned (.pointer (some ⟨bs, 0, none⟩)) ∧ (∀ c, SumIs w bs c → SumIs w' bs (c || !ok)) ∧ BelX w.heap.size bs w w' := by
  obtain ⟨b0, hb⟩ := hs
  exact (need_any ok bs b0 w hb).mono fun e w' ⟨h1, h2, h3⟩ => ⟨h1, fun c hc => by rw [← hb.uniq hc]; exact h2, h3⟩
def gotF {α : Type} (b : Bool) (z a : α) : α := if b then z else a
set_option maxRecDepth 100000 in
set_option maxHeartbeats 400000 in
theorem got_frac (a : Fr) (bs : Nat) (w : World) (hs : SumEx w bs) :
    Calls Tryz.prog 86 #[.pointer (some ⟨bs, 0, none⟩), frv a] w fun e w' => ∃ b, SumIs w bs b ∧ e = .returned (.tuple #[frv (gotF b (⟨0, 0, 0⟩ : Fr) a), .bool (!b)]) ∧ Below w.heap.size w w' := by
  obtain ⟨bad, hs⟩ := hs
  suffices Calls Tryz.prog 86 #[.pointer (some ⟨bs, 0, none⟩), frv a] w fun e w' => e = .returned (.tuple #[frv (gotF bad (⟨0, 0, 0⟩ : Fr) a), .bool (!bad)]) ∧ Below w.heap.size w w' from
    this.mono fun _ _ ⟨h1, h2⟩ => ⟨bad, hs, h1, h2⟩
  have hlt := hs.lt
  have hcs := hs.cell
  have hne : w.heap.size ≠ bs ∧ w.heap.size + 1 ≠ bs ∧ w.heap.size + 1 + 1 ≠ bs := ⟨by omega, by omega, by omega⟩
  cases bad
  · go_enter Tryz.func86, Tryz.ntmps86
    go_wp2
    exact bodyPost_ret (v := .tuple #[frv a, .bool true]) (by simp [results, Tryz.results86, go_sem, *]) rfl ⟨rfl, by exact below_⟩
  · go_enter Tryz.func86, Tryz.ntmps86
    go_wp2
    exact bodyPost_ret (v := .tuple #[frv (⟨0, 0, 0⟩ : Fr), .bool false]) (by simp [results, Tryz.results86, go_sem, *]) rfl ⟨rfl, by exact below_⟩
end
section
open Go.RowKit
attribute [local go_sem ↓] Go.wp_at_zero Go.wp_at_succ
/-- A vector of light. -/
structure Jn where
  x : Fr
  y : Fr
  deriving DecidableEq
abbrev jnv (a : Jn) : Value := .agg #[.int .i64 a.x.re, .int .i64 a.x.im, .int .i64 a.x.den, .int .i64 a.y.re, .int .i64 a.y.im, .int .i64 a.y.den]
abbrev Z3 : Fr := ⟨0, 0, 0⟩
/-- The sum of two products. -/
def innerI (a b c d : Fr) : Option Fr := (timesI a b).bind fun x => (timesI c d).bind fun y => addI x y
end
end Go.Proofs.YtodhbkinbcemnaaGreatDoor
