/-
  Plain definitions and lemmas on whole numbers and exact fractions: no program in sight. Nothing is claimed here; the other texts of this claim use it.
-/
import Derived.Below
import Derived.WalkSmall
namespace Go.Proofs.YtiagnnmnaakmoaaDoor
set_option linter.unusedSimpArgs false
set_option linter.unusedVariables false
open Go.RowKit

def inB (n lo hi : Int) : Bool := decide (lo ≤ n) && decide (n ≤ hi)
theorem inB_iff {n lo hi : Int} : inB n lo hi = true ↔ lo ≤ n ∧ n ≤ hi := by simp [inB]
def gcdI (a b : Int) : Int := (Nat.gcd a.natAbs b.natAbs : Nat)
def absI (a : Int) : Int := (a.natAbs : Int)
theorem gcdI_nonneg (a b : Int) : 0 ≤ gcdI a b := by unfold gcdI; omega
theorem gcdI_le (a b M : Int) (h1 : -M ≤ a) (h2 : a ≤ M) (h3 : -M ≤ b) (h4 : b ≤ M) : gcdI a b ≤ M := by
  unfold gcdI
  rcases Nat.eq_zero_or_pos a.natAbs with h | h
  · rw [h, Nat.gcd_zero_left]; omega
  · have := Nat.gcd_le_left b.natAbs h; omega
theorem absI_bd (a M : Int) (h1 : -M ≤ a) (h2 : a ≤ M) : 0 ≤ absI a ∧ absI a ≤ M := by unfold absI; omega
theorem gcdI_zero (a : Int) : gcdI a 0 = absI a := by simp [gcdI, absI]
theorem gcdI_step (a b : Int) : gcdI b (a.tmod b) = gcdI a b := by
  unfold gcdI
  rw [Int.natAbs_tmod, Nat.gcd_comm a.natAbs, Nat.gcd_rec b.natAbs a.natAbs, Nat.gcd_comm]
theorem gcdI_pos (a b : Int) (h : 1 ≤ b) : 1 ≤ gcdI a b := by
  unfold gcdI
  have := Nat.gcd_pos_of_pos_right a.natAbs (n := b.natAbs) (by omega)
  omega

/-- An exact fraction: the two parts and the bottom. -/
structure Fr where
  re : Int
  im : Int
  den : Int
  deriving DecidableEq

abbrev frv (a : Fr) : Value := .agg #[.int .i64 a.re, .int .i64 a.im, .int .i64 a.den]
abbrev frb (o : Option Fr) : Value := .tuple #[frv (o.getD ⟨0, 0, 0⟩), .bool o.isSome]

def gcd3 (re im den : Int) : Int := gcdI (gcdI (absI re) (absI im)) den
theorem gcd3_eq (re im den : Int) : gcdI (gcdI den re) im = gcd3 re im den := by
  unfold gcd3 gcdI absI
  simp only [Int.natAbs_natCast]
  rw [Nat.gcd_comm (Nat.gcd re.natAbs im.natAbs) den.natAbs, Nat.gcd_assoc]
theorem gcd3_pos (re im den : Int) (h : 1 ≤ den) : 1 ≤ gcd3 re im den := gcdI_pos _ _ h
theorem gcd3_dvd (re im den : Int) : gcd3 re im den ∣ re ∧ gcd3 re im den ∣ im ∧ gcd3 re im den ∣ den := by
  unfold gcd3 gcdI absI
  simp only [Int.natAbs_natCast]
  have h := Nat.gcd_dvd (Nat.gcd re.natAbs im.natAbs) den.natAbs
  have k := Nat.gcd_dvd re.natAbs im.natAbs
  exact ⟨Int.ofNat_dvd_left.2 (Nat.dvd_trans h.1 k.1), Int.ofNat_dvd_left.2 (Nat.dvd_trans h.1 k.2), Int.ofNat_dvd_left.2 h.2⟩
theorem gcd3_mul (c re im den : Int) (h : 0 ≤ c) : gcd3 (c * re) (c * im) (c * den) = c * gcd3 re im den := by
  obtain ⟨c, rfl⟩ := Int.eq_ofNat_of_zero_le h
  unfold gcd3 gcdI absI
  simp only [Int.natAbs_natCast, Int.natAbs_mul, Nat.gcd_mul_left, Int.natCast_mul]

def fvalid (a : Fr) : Bool := inB a.re (-2000000000) 2000000000 && inB a.im (-2000000000) 2000000000 && inB a.den 1 2000000000 && (gcd3 a.re a.im a.den == 1)
theorem fvalid_bd (a : Fr) (h : fvalid a = true) : (-2000000000 ≤ a.re ∧ a.re ≤ 2000000000) ∧ (-2000000000 ≤ a.im ∧ a.im ≤ 2000000000) ∧ (1 ≤ a.den ∧ a.den ≤ 2000000000) := by
  simp [fvalid, inB] at h; omega
theorem fvalid_gcd (a : Fr) (h : fvalid a = true) : gcd3 a.re a.im a.den = 1 := by
  simp [fvalid] at h; exact h.2

/-- Lowest terms, where they are small enough. -/
def lowI (re im den : Int) : Option Fr :=
  let g := gcd3 re im den
  if inB (re.tdiv g) (-2000000000) 2000000000 && inB (im.tdiv g) (-2000000000) 2000000000 && !decide (2000000000 < den / g) then some ⟨re.tdiv g, im.tdiv g, den / g⟩ else none

theorem lowI_yes {re im den : Int} (h1 : inB (re.tdiv (gcdI (gcdI (absI re) (absI im)) den)) (-2000000000) 2000000000 = true) (h2 : inB (im.tdiv (gcdI (gcdI (absI re) (absI im)) den)) (-2000000000) 2000000000 = true) (h3 : den / gcdI (gcdI (absI re) (absI im)) den ≤ 2000000000) :
    lowI re im den = some ⟨re.tdiv (gcdI (gcdI (absI re) (absI im)) den), im.tdiv (gcdI (gcdI (absI re) (absI im)) den), den / gcdI (gcdI (absI re) (absI im)) den⟩ := by
  unfold lowI gcd3
  simp [h1, h2, h3]
theorem lowI_no1 {re im den : Int} (h1 : ¬ inB (re.tdiv (gcdI (gcdI (absI re) (absI im)) den)) (-2000000000) 2000000000 = true) : lowI re im den = none := by
  unfold lowI gcd3
  simp [h1]
theorem lowI_no2 {re im den : Int} (h1 : ¬ inB (im.tdiv (gcdI (gcdI (absI re) (absI im)) den)) (-2000000000) 2000000000 = true) : lowI re im den = none := by
  unfold lowI gcd3
  simp [h1]
theorem lowI_no3 {re im den : Int} (h3 : 2000000000 < den / gcdI (gcdI (absI re) (absI im)) den) : lowI re im den = none := by
  unfold lowI gcd3
  simp [h3]
theorem low_parts (re im den : Int) (h : 1 ≤ den) : ∃ x y z : Int, re = gcd3 re im den * x ∧ im = gcd3 re im den * y ∧ den = gcd3 re im den * z ∧ re.tdiv (gcd3 re im den) = x ∧ im.tdiv (gcd3 re im den) = y ∧ den / gcd3 re im den = z ∧ gcd3 x y z = 1 ∧ 1 ≤ z := by
  obtain ⟨⟨x, hx⟩, ⟨y, hy⟩, ⟨z, hz⟩⟩ := gcd3_dvd re im den
  have hg := gcd3_pos re im den h
  have k : gcd3 x y z = 1 := by
    have e := gcd3_mul (gcd3 re im den) x y z (by omega)
    rw [← hx, ← hy, ← hz] at e
    have : gcd3 re im den * gcd3 x y z = gcd3 re im den * 1 := by omega
    exact Int.eq_of_mul_eq_mul_left (by omega) this
  have hz1 : 1 ≤ z := by
    rcases Int.lt_or_le 0 z with h' | h'
    · omega
    · have := Int.mul_le_mul_of_nonneg_left h' (show 0 ≤ gcd3 re im den by omega); omega
  refine ⟨x, y, z, hx, hy, hz, ?_, ?_, ?_, k, hz1⟩
  · conv => lhs; arg 1; rw [hx]
    exact Int.mul_tdiv_cancel_left _ (by omega)
  · conv => lhs; arg 1; rw [hy]
    exact Int.mul_tdiv_cancel_left _ (by omega)
  · conv => lhs; arg 1; rw [hz]
    exact Int.mul_ediv_cancel_left _ (by omega)
theorem low_valid (re im den : Int) (h : 1 ≤ den) : fvalid ⟨re.tdiv (gcd3 re im den), im.tdiv (gcd3 re im den), den / gcd3 re im den⟩ =
    (inB (re.tdiv (gcd3 re im den)) (-2000000000) 2000000000 && inB (im.tdiv (gcd3 re im den)) (-2000000000) 2000000000 && !decide (2000000000 < den / gcd3 re im den)) := by
  obtain ⟨x, y, z, _, _, _, e1, e2, e3, k, hz⟩ := low_parts re im den h
  rw [e1, e2, e3]
  rw [show (!decide (2000000000 < z)) = decide (z ≤ 2000000000) by rw [Bool.eq_iff_iff]; simp]
  simp [fvalid, k, inB, hz]
theorem lowI_valid {re im den : Int} (h : 1 ≤ den) {f : Fr} (hf : lowI re im den = some f) : fvalid f = true := by
  unfold lowI at hf
  simp only [] at hf
  split at hf
  · rename_i hc
    injection hf with hf
    subst hf
    rw [low_valid re im den h]; exact hc
  · cases hf
theorem lowI_scale (c re im den : Int) (h : 1 ≤ c) (hd : 1 ≤ den) : lowI (c * re) (c * im) (c * den) = lowI re im den := by
  have hg := gcd3_pos re im den hd
  unfold lowI
  simp only [gcd3_mul c re im den (by omega)]
  rw [Int.mul_tdiv_mul_of_pos _ _ (by omega), Int.mul_tdiv_mul_of_pos _ _ (by omega), Int.mul_ediv_mul_of_pos _ _ (by omega)]

theorem mulbd (a b : Int) (h1 : -2000000000 ≤ a) (h2 : a ≤ 2000000000) (h3 : -2000000000 ≤ b) (h4 : b ≤ 2000000000) : -4000000000000000000 ≤ a * b ∧ a * b ≤ 4000000000000000000 := by
  have h : (a * b).natAbs ≤ 2000000000 * 2000000000 := by
    rw [Int.natAbs_mul]
    exact Nat.mul_le_mul (by omega) (by omega)
  omega
theorem mulbd1 (a b : Int) (h1 : 1 ≤ a) (h2 : a ≤ 2000000000) (h3 : 1 ≤ b) (h4 : b ≤ 2000000000) : 1 ≤ a * b ∧ a * b ≤ 4000000000000000000 := by
  have := mulbd a b (by omega) h2 (by omega) h4
  have k := Int.mul_le_mul h1 h3 (by omega) (by omega)
  omega

def makeI (re im den : Int) : Option Fr :=
  if inB den 1 1000000000000000000 && inB re (-1000000000000000000) 1000000000000000000 && inB im (-1000000000000000000) 1000000000000000000 then lowI re im den else none
def addI (a b : Fr) : Option Fr := if fvalid a && fvalid b then lowI (a.re * b.den + b.re * a.den) (a.im * b.den + b.im * a.den) (a.den * b.den) else none
def timesI (a b : Fr) : Option Fr := if fvalid a && fvalid b then lowI (a.re * b.re - a.im * b.im) (a.re * b.im + a.im * b.re) (a.den * b.den) else none
def mirrorI (a : Fr) : Option Fr := if fvalid a then some ⟨a.re, -a.im, a.den⟩ else none
def isZero (b : Fr) : Bool := b.re == 0 && b.im == 0
theorem fvalid_zero (b : Fr) (h : fvalid b = true) : (b.re == 0 && (b.im == 0 && b.den == 1)) = isZero b := by
  have hg := fvalid_gcd b h
  have hb := fvalid_bd b h
  unfold isZero
  by_cases h1 : b.re = 0
  · by_cases h2 : b.im = 0
    · rw [h1, h2] at hg
      simp [gcd3, gcdI, absI] at hg
      have : b.den = 1 := by omega
      simp [h1, h2, this]
    · have : (b.im == 0) = false := by simpa using h2
      simp [this]
  · have : (b.re == 0) = false := by simpa using h1
    simp [this]
/-- A cell behind a store into it: no premise. -/
theorem cellSetSame (w1 : World) (g o : Nat) (v : Value) : (w1.setCell ⟨g, o, none⟩ v).cell? ⟨g, o, none⟩ = (w1.cell? ⟨g, o, none⟩).map (fun _ => v) := by
  cases h : w1.cell? ⟨g, o, none⟩ with
  | some u => rw [World.cell?_setCell_same _ _ _ h]; rfl
  | none =>
    unfold World.cell? at h ⊢
    simp [World.setCell, Array.getElem?_modify] at h ⊢
    cases hb : w1.heap[g]? with
    | none => simp
    | some ob => cases ob with
      | cells c e f => simp [hb] at h ⊢; exact h
      | _ => simp
attribute [go_sem] cellSetSame
/-- An older cell behind a new block: the premise is an inequality of addresses, which the walk decides by linear arithmetic. -/
theorem cellAllocNe (w : World) (o : Obj) (n i : Nat) (h : (⟨n, i, none⟩ : Addr) ≠ ⟨w.heap.size, i, none⟩) : (w.alloc o).cell? ⟨n, i, none⟩ = w.cell? ⟨n, i, none⟩ :=
  World.cell?_alloc_old w o _ (fun e => h (by simpa using e))
theorem frozenAllocNe (w : World) (o : Obj) (n i : Nat) (h : (⟨n, i, none⟩ : Addr) ≠ ⟨w.heap.size, i, none⟩) : (w.alloc o).frozen? ⟨n, i, none⟩ = w.frozen? ⟨n, i, none⟩ :=
  World.frozen?_alloc_old w o _ (fun e => h (by simpa using e))
attribute [go_sem] cellAllocNe frozenAllocNe
/-- What holds of cells behind a call; the premise (that the cell is an old one) is an equation of addresses, which the walk decides by linear arithmetic. -/
theorem bfA {W w1 : World} (hb : Below W.heap.size W w1) : ∃ B, B = W.heap.size ∧ B ≤ w1.heap.size ∧ (∀ b o, (⟨min (b + 1) B, 0, none⟩ : Addr) = ⟨b + 1, 0, none⟩ → w1.cell? ⟨b, o, none⟩ = W.cell? ⟨b, o, none⟩) ∧ (∀ b o, (⟨min (b + 1) B, 0, none⟩ : Addr) = ⟨b + 1, 0, none⟩ → w1.frozen? ⟨b, o, none⟩ = W.frozen? ⟨b, o, none⟩) := by
  refine ⟨_, rfl, hb.size, fun b o h => hb.cell (p := ⟨b, o, none⟩) ?_, fun b o h => hb.frozen (p := ⟨b, o, none⟩) ?_⟩
  all_goals
    have := congrArg Addr.block h
    simp only at this
    show b < W.heap.size
    omega

/-- What holds of cells behind a call that makes memory only. -/
theorem bf {W w1 : World} (hb : Below W.heap.size W w1) (B : Nat) (hB : B ≤ W.heap.size) : (∀ b o, b < B → w1.cell? ⟨b, o, none⟩ = W.cell? ⟨b, o, none⟩) ∧ (∀ b o, b < B → w1.frozen? ⟨b, o, none⟩ = W.frozen? ⟨b, o, none⟩) :=
  ⟨fun b o h => hb.cell (p := ⟨b, o, none⟩) (Nat.lt_of_lt_of_le h hB), fun b o h => hb.frozen (p := ⟨b, o, none⟩) (Nat.lt_of_lt_of_le h hB)⟩
theorem sizeUp {W w1 : World} (h : W.heap.size ≤ w1.heap.size) : ∀ X, X < W.heap.size → X < w1.heap.size := fun _ hX => Nat.lt_of_lt_of_le hX h
theorem bstep {B : Nat} {w W w1 : World} (h : Below B w W) (hb : Below W.heap.size W w1) (hB : B ≤ W.heap.size) : Below B w w1 := h.trans (hb.mono hB)

end Go.Proofs.YtiagnnmnaakmoaaDoor
