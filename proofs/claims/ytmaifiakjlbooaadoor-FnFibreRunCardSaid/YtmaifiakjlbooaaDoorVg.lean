/-
  What the product of a fibre stands for; short fibres stand for the same. Plain arithmetic.
-/
import Derived.Test.YtmaifiakjlbooaaDoorVf
import Derived.Test.YtmaifiakjlbooaaDoorVc
namespace Go.Proofs.YtmaifiakjlbooaaDoor
set_option linter.unusedSimpArgs false
set_option linter.unusedVariables false
open Go.RowKit
def nS (s : Sec) : Int := (s.p * s.p + s.q * s.q) * (s.p * s.p + s.q * s.q)
def wS (s : Sec) : CM := WC (s.p * s.p - s.q * s.q) (2 * s.p * s.q) (phR s.ph) (phJ s.ph)
def pstep (A : CM × Int) (s : Sec) : CM × Int := (mulC (powC (wS s) s.t.toNat) A.1, nS s ^ s.t.toNat * A.2)
def prodL (xs : List Sec) : CM × Int := xs.foldl pstep (idC, 1)
theorem prodL_snoc (xs : List Sec) (s : Sec) : prodL (xs ++ [s]) = pstep (prodL xs) s := by simp [prodL]
theorem pow_pos' {n : Int} (h : 1 ≤ n) : ∀ j : Nat, 1 ≤ n ^ j
  | 0 => by simp
  | j + 1 => by
    have := Int.mul_le_mul (pow_pos' h j) h (by omega) (by have := pow_pos' h j; omega)
    rw [Int.pow_succ]
    omega
theorem mulN_rc {pl : Mt} {a b : CM} {d e : Int} (hp : RC pl a d) {m : Mt} (hm : RC m b e) : ∀ (j : Nat) (r : Mt), mulN pl j m = some r → RC r (mulC (powC a j) b) (d ^ j * e)
  | 0, r, h => by
    obtain rfl := Option.some.inj h
    rw [show powC a 0 = idC from rfl, id_mulC, Int.pow_zero, Int.one_mul]
    exact hm
  | j + 1, r, h => by
    rw [mulN] at h
    cases hx : mulN pl j m with
    | none => rw [hx] at h; cases h
    | some x =>
      rw [hx] at h
      have := rc_times hp (mulN_rc hp hm j x hx) h
      rw [show powC a (j + 1) = mulC a (powC a j) from rfl, mulC_assoc, Int.pow_succ, Int.mul_comm (d ^ j) d, Int.mul_assoc]
      exact this
theorem nS_pos {s : Sec} (h : secOk s = true) : 1 ≤ nS s := by
  have hd : dirOk s.p s.q = true := by
    simp only [secOk, Bool.and_eq_true] at h
    exact h.1.1
  have b := dir_bd s.p s.q hd
  have := Int.mul_le_mul b.1.1 b.1.1 (by omega) (by omega)
  unfold nS
  omega
theorem wS_sq {s : Sec} : (s.p * s.p - s.q * s.q) * (s.p * s.p - s.q * s.q) + 2 * s.p * s.q * (2 * s.p * s.q) = (s.p * s.p + s.q * s.q) * (s.p * s.p + s.q * s.q) := by grind
theorem fold_rc : ∀ (ys : List Sec) (o : Option Mt) (A : CM × Int), (∀ m, o = some m → RC m A.1 A.2) → (∀ s ∈ ys, secOk s = true) → ∀ m, ys.foldl fibStep o = some m → RC m (ys.foldl pstep A).1 (ys.foldl pstep A).2
  | [], o, A, h, _, m, e => h m e
  | s :: ys, o, A, h, hok, m, e => by
    refine fold_rc ys (fibStep o s) (pstep A s) (fun r hr => ?_) (fun z hz => hok z (by simp [hz])) m e
    have hs := hok s (by simp)
    have hd : dirOk s.p s.q = true ∧ inB s.ph 0 3 = true := by
      simp only [secOk, Bool.and_eq_true] at hs
      exact hs.1
    cases ho : o with
    | none => rw [ho] at hr; cases hr
    | some x =>
      rw [ho] at hr
      have h1 : fibStep (some x) s = (plateI s.p s.q s.ph).bind fun pl => mulN pl s.t.toNat x := rfl
      rw [h1] at hr
      cases hpl : plateI s.p s.q s.ph with
      | none => rw [hpl] at hr; cases hr
      | some pl =>
        rw [hpl] at hr
        exact mulN_rc (show RC pl (wS s) (nS s) from plate_rw hd.1 hd.2 hpl) (h x ho) _ r hr
theorem fib_rc {xs : List Sec} {m : Mt} (h : fibMatI xs = some m) : RC m (prodL xs).1 (prodL xs).2 := by
  unfold fibMatI at h
  split at h
  · rename_i hf
    rw [fibK, List.take_length] at h
    refine fold_rc xs (some oneM) (idC, 1) (fun r hr => ?_) (fun s hs => ?_) m h
    · obtain rfl := Option.some.inj hr
      refine ⟨⟨by decide, by decide, by decide, by decide⟩, ⟨by decide, by decide, by decide, by decide⟩, ⟨by decide, by decide, by decide, by decide⟩, ⟨by decide, by decide, by decide, by decide⟩⟩
    · simp only [fibOk, Bool.and_eq_true] at hf
      exact List.all_eq_true.1 hf.1 s hs
  · cases h
/-- Two products up to a factor. -/
def Same (A B : CM × Int) : Prop := (1 ≤ A.2 ∧ 1 ≤ B.2) ∧ Eqv A.1 A.2 B.1 B.2
theorem Same.refl {A : CM × Int} (h : 1 ≤ A.2) : Same A A := ⟨⟨h, h⟩, Eqv.refl _ _⟩
theorem Same.trans {A B C : CM × Int} (h : Same A B) (k : Same B C) : Same A C := ⟨⟨h.1.1, k.1.2⟩, h.2.trans h.1.2 k.2⟩
theorem Same.symm {A B : CM × Int} (h : Same A B) : Same B A := ⟨⟨h.1.2, h.1.1⟩, h.2.symm⟩
theorem pos_mul {a b : Int} (ha : 1 ≤ a) (hb : 1 ≤ b) : 1 ≤ a * b := by
  have := Int.mul_le_mul ha hb (by omega) (by omega)
  omega
theorem Same.step {A B : CM × Int} (h : Same A B) {s : Sec} (hs : 1 ≤ nS s) : Same (pstep A s) (pstep B s) :=
  ⟨⟨pos_mul (pow_pos' hs _) h.1.1, pos_mul (pow_pos' hs _) h.1.2⟩, Eqv.mul (Eqv.refl _ _) h.2⟩
theorem wc_pow {c s n a b : Int} (hc : c * c + s * s = n * n) : ∀ j : Nat, Eqv (powC (WC c s a b) j) ((n * n) ^ j) (WC c s (cpow a b j).1 (cpow a b j).2) (n * n)
  | 0 => by
    unfold Eqv
    rw [show (cpow a b 0) = (1, 0) from rfl, wc_one hc, show powC (WC c s a b) 0 = idC from rfl, Int.pow_zero, smul_smul, Int.one_mul]
  | j + 1 => by
    have ih := wc_pow (a := a) (b := b) hc j
    unfold Eqv at ih ⊢
    rw [show powC (WC c s a b) (j + 1) = mulC (WC c s a b) (powC (WC c s a b) j) from rfl, ← mulC_smul, ih, mulC_smul, wc_mul hc, smul_smul, Int.pow_succ]
    rfl
theorem cpow_add (a b : Int) (i : Nat) : ∀ j : Nat, cpow a b j = (1, 0) → cpow a b (i + j) = cpow a b i := by
  intro j hj
  induction i with
  | zero => rw [Nat.zero_add, hj]; rfl
  | succ i ih => rw [Nat.succ_add, cpow, ih]; rfl
theorem cpow_mod {k : Int} (hk : inB k 0 3 = true) (t : Nat) : cpow (phR k) (phJ k) t = cpow (phR k) (phJ k) (t % (beatI k).toNat) := by
  have hb := beat_pow hk
  have h : ∀ (m r : Nat), cpow (phR k) (phJ k) (r + m * (beatI k).toNat) = cpow (phR k) (phJ k) r := by
    intro m r
    induction m with
    | zero => rw [Nat.zero_mul, Nat.add_zero]
    | succ m ih => rw [Nat.succ_mul, ← Nat.add_assoc, cpow_add _ _ _ _ hb, ih]
  conv => lhs; rw [← Nat.mod_add_div t (beatI k).toNat, Nat.mul_comm]
  exact h _ _
theorem powC_mod {s : Sec} (hs : secOk s = true) (t : Nat) : Same (powC (wS s) t, nS s ^ t) (powC (wS s) (t % (beatI s.ph).toNat), nS s ^ (t % (beatI s.ph).toNat)) := by
  have hn := nS_pos hs
  have hk : inB s.ph 0 3 = true := by
    simp only [secOk, Bool.and_eq_true] at hs
    exact hs.1.2
  have e1 := wc_pow (a := phR s.ph) (b := phJ s.ph) (wS_sq (s := s)) t
  have e2 := wc_pow (a := phR s.ph) (b := phJ s.ph) (wS_sq (s := s)) (t % (beatI s.ph).toNat)
  rw [cpow_mod hk] at e1
  exact ⟨⟨pow_pos' hn _, pow_pos' hn _⟩, Eqv.trans hn e1 e2.symm⟩
end Go.Proofs.YtmaifiakjlbooaaDoor
