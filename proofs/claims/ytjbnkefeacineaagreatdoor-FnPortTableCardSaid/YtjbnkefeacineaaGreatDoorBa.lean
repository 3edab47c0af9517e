/-
  Benches as texts, in plain Lean: cutting at a byte, numbers in their own text, pieces; the program's reading and the reference's are one.
-/
import Derived.Lib.AtoiAll
import Derived.Lib.Atoi
import Derived.Lib.ItoaNum
import Derived.Lib.SplitLaws
namespace Go.Proofs.YtjbnkefeacineaaGreatDoor
set_option linter.unusedSimpArgs false
set_option linter.unusedVariables false
open Go
/-- Cuts at a byte. -/
def cutL (c : UInt8) : List UInt8 → List (List UInt8)
  | [] => [[]]
  | b :: r => if b = c then [] :: cutL c r else match cutL c r with
    | [] => [[b]]
    | x :: xs => (b :: x) :: xs
theorem cutL_ne (c : UInt8) : ∀ l, cutL c l ≠ []
  | [] => by simp [cutL]
  | b :: r => by
    unfold cutL
    split
    · simp
    · split <;> simp
theorem cutL_cons {c b : UInt8} (h : b ≠ c) {r x : List UInt8} {xs : List (List UInt8)} (e : cutL c r = x :: xs) : cutL c (b :: r) = (b :: x) :: xs := by
  rw [cutL, if_neg h, e]
theorem cutL_open (c : UInt8) (l : List UInt8) : ∃ x xs, cutL c l = x :: xs := by
  cases h : cutL c l with
  | nil => exact absurd h (cutL_ne c l)
  | cons x xs => exact ⟨x, xs, rfl⟩
theorem index_hit (c : UInt8) (l : List UInt8) : Lib.index (c :: l) [c] = 0 := by rw [Lib.index]; simp [List.isPrefixOf]
theorem index_far {b c : UInt8} (l : List UInt8) (h : b ≠ c) : Lib.index (b :: l) [c] = if Lib.index l [c] == -1 then -1 else Lib.index l [c] + 1 := by
  have hp : ([c] : List UInt8).isPrefixOf (b :: l) = false := by simp [List.isPrefixOf, Ne.symm h]
  rw [Lib.index, hp]; simp
/-- What strings.Split hands back at a separator of one byte. -/
theorem split_cut (c : UInt8) : ∀ l, Lib.splitK [c] 0 (Lib.count l [c]) l = cutL c l
  | [] => by rw [Lib.count_one]; rfl
  | b :: r => by
    by_cases h : b = c
    · subst h
      rw [Lib.count_cons_eq, Nat.add_comm, Lib.splitK, index_hit]
      simp only [show ((0 : Int) == -1) = false by decide, Bool.false_eq_true, if_false]
      rw [cutL, if_pos rfl, ← split_cut b r]
      simp
    · obtain ⟨x, xs, hx⟩ := cutL_open c r
      rw [Lib.count_cons_ne b c r h, cutL_cons h hx]
      have ih := split_cut c r
      rw [hx] at ih
      cases hc : Lib.count r [c] with
      | zero => rw [hc] at ih; simp only [Lib.splitK] at ih ⊢; simp only [List.cons.injEq] at ih; simp [ih.1, ← ih.2]
      | succ k =>
        rw [hc] at ih
        rw [Lib.splitK, index_far r h]
        rw [Lib.splitK] at ih
        by_cases hm : Lib.index r [c] = -1
        · rw [hm] at ih ⊢
          simp only [show ((-1 : Int) == -1) = true by decide, if_true] at ih ⊢
          simp only [List.cons.injEq] at ih
          simp [ih.1, ← ih.2]
        · have hge := Lib.index_ge r [c]
          obtain ⟨j, hj⟩ : ∃ j : Nat, Lib.index r [c] = j := ⟨(Lib.index r [c]).toNat, by omega⟩
          have hb1 : (Lib.index r [c] == -1) = false := by simpa using hm
          have hb2 : (((j : Int) + 1) == -1) = false := by rw [beq_eq_false_iff_ne]; omega
          rw [hb1] at ih ⊢
          simp only [Bool.false_eq_true, if_false] at ih ⊢
          rw [hj] at ih ⊢
          rw [hb2]
          simp only [Bool.false_eq_true, if_false]
          simp only [List.cons.injEq, Int.toNat_natCast, Nat.add_zero, List.length_singleton] at ih
          have e : ((j : Int) + 1).toNat = j + 1 := by omega
          rw [e]
          simp only [Nat.add_zero, List.length_singleton, List.take_succ_cons, List.drop_succ_cons, List.cons.injEq]
          exact ⟨by simp [ih.1], ih.2⟩
/-- How long the words are. -/
theorem cutL_len (c : UInt8) : ∀ l, ((cutL c l).map List.length).sum + (cutL c l).length = l.length + 1
  | [] => rfl
  | b :: r => by
    have ih := cutL_len c r
    by_cases h : b = c
    · rw [cutL, if_pos h]; simp; omega
    · obtain ⟨x, xs, hx⟩ := cutL_open c r
      rw [cutL_cons h hx]
      rw [hx] at ih
      simp at ih ⊢; omega
theorem parse_snoc (c : UInt8) : ∀ (l : List UInt8) (acc u : Nat), Lib.parseUint10 acc l = .ok u → Lib.parseUint10 acc (l ++ [c]) = Lib.parseUint10 u [c]
  | [], acc, u, h => by
    simp only [Lib.parseUint10] at h
    injection h with h
    rw [List.nil_append, h]
  | d :: r, acc, u, h => by
    rw [List.cons_append, Lib.parseUint10]
    rw [Lib.parseUint10] at h
    split at h
    · rename_i h0
      split at h
      · cases h
      · rename_i h1
        split at h
        · cases h
        · rename_i h2
          rw [if_pos h0, if_neg h1, if_neg h2]
          exact parse_snoc c r _ u h
    · cases h
theorem dec_snoc (c : UInt8) : ∀ (l : List UInt8) (acc u : Nat), Lib.decFrom acc l = some u → Lib.decFrom acc (l ++ [c]) = (Lib.digitVal c).map (u * 10 + ·)
  | [], acc, u, h => by
    simp only [Lib.decFrom] at h
    injection h with h
    subst h
    rw [List.nil_append]
    simp only [Lib.decFrom]
    cases Lib.digitVal c <;> rfl
  | d :: r, acc, u, h => by
    rw [List.cons_append]
    simp only [Lib.decFrom] at h ⊢
    cases hd : Lib.digitVal d with
    | none => rw [hd] at h; cases h
    | some k =>
      rw [hd] at h
      exact dec_snoc c r _ u h
theorem digit_toNat {k : Nat} (h : k < 10) : (UInt8.ofNat (48 + k)).toNat = 48 + k := by
  rw [UInt8.toNat_ofNat']; omega
theorem digit_val {k : Nat} (h : k < 10) : Lib.digitVal (UInt8.ofNat (48 + k)) = some k := by
  unfold Lib.digitVal
  rw [digit_toNat h, if_pos (by omega)]
  congr 1
  omega
theorem decDigits_rec (u : Nat) (h : ¬ u < 10) : Lib.decDigits u = Lib.decDigits (u / 10) ++ [UInt8.ofNat (48 + u % 10)] := by
  rw [Lib.decDigits, dif_neg h]
/-- A number's own text is read as that number. -/
theorem parse_own : ∀ u : Nat, u < 9223372036854775809 → Lib.parseUint10 0 (Lib.decDigits u) = .ok u := by
  intro u
  induction u using Nat.strongRecOn with
  | _ u ih =>
    intro hu
    by_cases h : u < 10
    · rw [Lib.decDigits_one h]
      simp only [Lib.parseUint10, digit_toNat h]
      rw [if_pos (by omega), if_neg (by omega), if_neg (by omega)]
      congr 1
      omega
    · rw [decDigits_rec u h, parse_snoc _ _ _ _ (ih (u / 10) (by omega) (by omega))]
      simp only [Lib.parseUint10, digit_toNat (show u % 10 < 10 by omega)]
      rw [if_pos (by omega), if_neg (by omega), if_neg (by omega)]
      congr 1
      omega
theorem dec_own : ∀ u : Nat, Lib.decFrom 0 (Lib.decDigits u) = some u := by
  intro u
  induction u using Nat.strongRecOn with
  | _ u ih =>
    by_cases h : u < 10
    · rw [Lib.decDigits_one h]
      simp only [Lib.decFrom, digit_val h]
      congr 1
      omega
    · rw [decDigits_rec u h, dec_snoc _ _ _ _ (ih (u / 10) (by omega)), digit_val (show u % 10 < 10 by omega)]
      simp only [Option.map_some]
      congr 1
      omega
theorem decDigits_open (u : Nat) : ∃ c r, Lib.decDigits u = c :: r ∧ 48 ≤ c.toNat ∧ c.toNat ≤ 57 := by
  induction u using Nat.strongRecOn with
  | _ u ih =>
    by_cases h : u < 10
    · exact ⟨_, _, Lib.decDigits_one h, by rw [digit_toNat h]; omega, by rw [digit_toNat h]; omega⟩
    · obtain ⟨c, r, e, h1, h2⟩ := ih (u / 10) (by omega)
      exact ⟨c, r ++ [UInt8.ofNat (48 + u % 10)], by rw [decDigits_rec u h, e]; rfl, h1, h2⟩
theorem mag_own {u : Nat} (h : u < 9223372036854775809) : Lib.parseMag (Lib.decDigits u) = .ok u := by
  obtain ⟨c, r, e, -⟩ := decDigits_open u
  unfold Lib.parseMag
  rw [if_neg (by rw [e]; simp), parse_own u h]
def i64ok (v : Int) : Prop := -9223372036854775808 ≤ v ∧ v ≤ 9223372036854775807
theorem atoi_own {v : Int} (h : i64ok v) : Lib.atoiAll (Lib.itoa v) = .ok v := by
  obtain ⟨h0, h1⟩ := h
  unfold Lib.itoa
  by_cases hn : v < 0
  · rw [if_pos hn]
    unfold Lib.atoiAll
    simp only [show (45 : UInt8).toNat = 45 by decide, or_true, if_true, mag_own (show v.natAbs < 9223372036854775809 by omega)]
    rw [if_neg (by simp), if_neg (by omega)]
    congr 1
    omega
  · rw [if_neg hn]
    obtain ⟨c, r, e, h2, h3⟩ := decDigits_open v.toNat
    have hm := mag_own (u := v.toNat) (by omega)
    rw [e] at hm ⊢
    unfold Lib.atoiAll
    simp only [show ¬ (c.toNat = 43) by omega, show ¬ (c.toNat = 45) by omega, or_self, if_false, hm, not_false_eq_true, true_and, false_and]
    rw [if_neg (by omega)]
    congr 1
    omega
theorem atoi_range {l : List UInt8} {v : Int} (h : Lib.atoiAll l = .ok v) : i64ok v := by
  unfold Lib.atoiAll at h
  split at h
  · cases h
  · rename_i c r
    simp only at h
    split at h
    · cases h
    · cases h
    · rename_i u hu
      split at h
      · cases h
      · rename_i h1
        split at h
        · cases h
        · rename_i h2
          injection h with h
          subst h
          unfold i64ok
          split <;> omega
/-- A number in its own text, as the program reads it. -/
def numI (l : List UInt8) : Option Int := match Lib.atoiAll l with
  | .ok v => if Lib.itoa v = l then some v else none
  | _ => none
/-- The reference's digits. -/
def numSL : List UInt8 → Option Int
  | [] => some 0
  | c :: r => if c = 45 then (Lib.decFrom 0 r).map fun n => -(n : Int) else (Lib.decFrom 0 (c :: r)).map fun n => (n : Int)
def numS (l : List UInt8) : Option Int := if decide (1 ≤ l.length) && decide (l.length ≤ 4) then (numSL l).bind fun n => if Lib.itoa n = l then some n else none else none
theorem numI_iff {l : List UInt8} {v : Int} : numI l = some v ↔ (l = Lib.itoa v ∧ i64ok v) := by
  unfold numI
  constructor
  · intro h
    split at h
    · rename_i u hu
      split at h
      · rename_i hi
        obtain rfl := Option.some.inj h
        exact ⟨hi.symm, atoi_range hu⟩
      · cases h
    · cases h
  · rintro ⟨rfl, h⟩
    rw [atoi_own h]
    simp
theorem numSL_own (v : Int) : numSL (Lib.itoa v) = some v := by
  unfold Lib.itoa
  by_cases hn : v < 0
  · rw [if_pos hn, numSL, if_pos rfl, dec_own]
    show some (-((v.natAbs : Nat) : Int)) = some v
    congr 1
    omega
  · rw [if_neg hn]
    obtain ⟨c, r, e, h2, h3⟩ := decDigits_open v.toNat
    have hm := dec_own v.toNat
    rw [e] at hm ⊢
    have hc : c ≠ 45 := by rintro rfl; simp at h2
    rw [numSL, if_neg hc, hm]
    show some ((v.toNat : Nat) : Int) = some v
    congr 1
    omega
theorem itoa_ne (v : Int) : 1 ≤ (Lib.itoa v).length := by
  unfold Lib.itoa
  split
  · simp
  · obtain ⟨c, r, e, -⟩ := decDigits_open v.toNat
    rw [e]; simp
theorem numS_iff {l : List UInt8} {v : Int} : numS l = some v ↔ (l = Lib.itoa v ∧ l.length ≤ 4) := by
  unfold numS
  constructor
  · intro h
    split at h
    · rename_i hc
      simp only [Bool.and_eq_true, decide_eq_true_eq] at hc
      cases hs : numSL l with
      | none => rw [hs] at h; cases h
      | some n =>
        rw [hs, Option.bind_some] at h
        split at h
        · rename_i hi
          obtain rfl := Option.some.inj h
          exact ⟨hi.symm, hc.2⟩
        · cases h
    · cases h
  · rintro ⟨rfl, h⟩
    have := itoa_ne v
    rw [if_pos (by simp only [Bool.and_eq_true, decide_eq_true_eq]; omega), numSL_own]
    simp
theorem digits_small {u k : Nat} (h : Lib.nDigits u ≤ k) : u < 10 ^ k := by
  have h1 := Lib.lt_pow_nDigits u
  exact Nat.lt_of_lt_of_le h1 (Nat.pow_le_pow_right (by omega) h)
theorem itoa_small {v : Int} (h : (Lib.itoa v).length ≤ 4) : -1000 < v ∧ v < 10000 := by
  unfold Lib.itoa at h
  split at h
  · rw [List.length_cons, Lib.decDigits_length] at h
    have := digits_small (u := v.natAbs) (k := 3) (by omega)
    omega
  · rw [Lib.decDigits_length] at h
    have := digits_small (u := v.toNat) (k := 4) (by omega)
    omega
theorem nDigits_le {u k : Nat} (h1 : 1 ≤ k) (h : u < 10 ^ k) : Lib.nDigits u ≤ k := by
  induction k generalizing u with
  | zero => omega
  | succ k ih =>
    by_cases hu : u < 10
    · rw [Lib.nDigits_small hu]; omega
    · rw [Lib.nDigits_big hu]
      have hk : k ≠ 0 := by rintro rfl; simp at h; omega
      have := ih (u := u / 10) (by omega) (by rw [Nat.pow_succ] at h; omega)
      omega
theorem itoa_len {v : Int} (h0 : -1000 < v) (h1 : v < 10000) : (Lib.itoa v).length ≤ 4 := by
  unfold Lib.itoa
  split
  · rw [List.length_cons, Lib.decDigits_length]
    have := nDigits_le (u := v.natAbs) (k := 3) (by omega) (by omega)
    omega
  · rw [Lib.decDigits_length]
    exact nDigits_le (u := v.toNat) (k := 4) (by omega) (by omega)
theorem numS_numI {l : List UInt8} {v : Int} (h : numS l = some v) : numI l = some v := by
  obtain ⟨rfl, hl⟩ := numS_iff.1 h
  have := itoa_small hl
  exact numI_iff.2 ⟨rfl, by unfold i64ok; omega⟩
theorem numI_numS {l : List UInt8} {v : Int} (h : numI l = some v) (h0 : -1000 < v) (h1 : v < 10000) : numS l = some v := by
  obtain ⟨rfl, -⟩ := numI_iff.1 h
  exact numS_iff.2 ⟨rfl, itoa_len h0 h1⟩
/-- All of a list, or none. -/
def allM {α β : Type} (f : α → Option β) : List α → Option (List β)
  | [] => some []
  | x :: xs => (f x).bind fun y => (allM f xs).map (y :: ·)
theorem allM_len {α β : Type} {f : α → Option β} : ∀ {xs : List α} {ys : List β}, allM f xs = some ys → ys.length = xs.length
  | [], ys, h => by obtain rfl := Option.some.inj h; rfl
  | x :: xs, ys, h => by
    rw [allM] at h
    cases hx : f x with
    | none => rw [hx] at h; cases h
    | some y =>
      rw [hx, Option.bind_some] at h
      cases ht : allM f xs with
      | none => rw [ht] at h; cases h
      | some zs =>
        rw [ht, Option.map_some] at h
        obtain rfl := Option.some.inj h
        simp [allM_len ht]
theorem allM_cons {α β : Type} {f : α → Option β} {x : α} {xs : List α} {ys : List β} (h : allM f (x :: xs) = some ys) : ∃ y zs, f x = some y ∧ allM f xs = some zs ∧ ys = y :: zs := by
  rw [allM] at h
  cases hx : f x with
  | none => rw [hx] at h; cases h
  | some y =>
    rw [hx, Option.bind_some] at h
    cases ht : allM f xs with
    | none => rw [ht] at h; cases h
    | some zs =>
      rw [ht, Option.map_some] at h
      exact ⟨y, zs, rfl, rfl, (Option.some.inj h).symm⟩
theorem allM_mk {α β : Type} {f : α → Option β} {x : α} {xs : List α} {y : β} {zs : List β} (h1 : f x = some y) (h2 : allM f xs = some zs) : allM f (x :: xs) = some (y :: zs) := by
  rw [allM, h1, Option.bind_some, h2, Option.map_some]
/-- Another reading that agrees at what is read. -/
theorem allM_of {α β : Type} {f g : α → Option β} {p : β → Prop} (hfg : ∀ x y, f x = some y → p y → g x = some y) : ∀ {xs : List α} {ys : List β}, allM f xs = some ys → (∀ y ∈ ys, p y) → allM g xs = some ys
  | [], ys, h, _ => by obtain rfl := Option.some.inj h; rfl
  | x :: xs, ys, h, hp => by
    obtain ⟨y, zs, hx, ht, rfl⟩ := allM_cons h
    exact allM_mk (hfg x y hx (hp y (by simp))) (allM_of hfg ht fun z hz => hp z (by simp [hz]))
/-- What of a prefix is none is none of the whole. -/
theorem allM_none {α β : Type} {f : α → Option β} {x : α} : ∀ {xs : List α} {k : Nat}, xs[k]? = some x → f x = none → allM f xs = none
  | [], k, h, _ => by simp at h
  | z :: xs, 0, h, hx => by
    obtain rfl := Option.some.inj h
    rw [allM, hx]; rfl
  | z :: xs, k + 1, h, hx => by
    rw [allM, allM_none (xs := xs) (k := k) h hx]
    cases f z <;> rfl
theorem allM_snoc {α β : Type} {f : α → Option β} {x : α} {y : β} : ∀ {xs : List α} {ys : List β}, allM f xs = some ys → f x = some y → allM f (xs ++ [x]) = some (ys ++ [y])
  | [], ys, h, hx => by
    obtain rfl := Option.some.inj h
    exact allM_mk hx rfl
  | z :: xs, ys, h, hx => by
    obtain ⟨y', zs, h1, h2, rfl⟩ := allM_cons h
    rw [List.cons_append]
    exact allM_mk h1 (allM_snoc h2 hx)
theorem allM_take {α β : Type} {f : α → Option β} {xs : List α} {ys : List β} {x : α} {y : β} {k : Nat} (h : allM f (xs.take k) = some ys) (hk : xs[k]? = some x) (hx : f x = some y) : allM f (xs.take (k + 1)) = some (ys ++ [y]) := by
  rw [List.take_add_one, hk]
  exact allM_snoc h hx
/-- A piece of a bench: its letter and its numbers. -/
structure Pc where
  k : UInt8
  ns : List Int
end Go.Proofs.YtjbnkefeacineaaGreatDoor
