/-
  What the products of a fibre stand for: short fibres, ways back, multiples, orders. Plain arithmetic.
-/
import Derived.Test.YtmaifiakjlbooaaDoorVb
import Derived.Test.YtmaifiakjlbooaaDoorVc
import Derived.Test.YtmaifiakjlbooaaDoorGb
namespace Go.Proofs.YtmaifiakjlbooaaDoor
set_option linter.unusedSimpArgs false
set_option linter.unusedVariables false
open Go.RowKit
/-- A matrix of whole complex numbers. -/
structure CM where
  x0 : Int
  y0 : Int
  x1 : Int
  y1 : Int
  x2 : Int
  y2 : Int
  x3 : Int
  y3 : Int
def mulC (m n : CM) : CM := ⟨(m.x0 * n.x0 - m.y0 * n.y0) + (m.x1 * n.x2 - m.y1 * n.y2), (m.x0 * n.y0 + m.y0 * n.x0) + (m.x1 * n.y2 + m.y1 * n.x2), (m.x0 * n.x1 - m.y0 * n.y1) + (m.x1 * n.x3 - m.y1 * n.y3), (m.x0 * n.y1 + m.y0 * n.x1) + (m.x1 * n.y3 + m.y1 * n.x3),
  (m.x2 * n.x0 - m.y2 * n.y0) + (m.x3 * n.x2 - m.y3 * n.y2), (m.x2 * n.y0 + m.y2 * n.x0) + (m.x3 * n.y2 + m.y3 * n.x2), (m.x2 * n.x1 - m.y2 * n.y1) + (m.x3 * n.x3 - m.y3 * n.y3), (m.x2 * n.y1 + m.y2 * n.x1) + (m.x3 * n.y3 + m.y3 * n.x3)⟩
def idC : CM := ⟨1, 0, 0, 0, 0, 0, 1, 0⟩
def smulC (k : Int) (m : CM) : CM := ⟨k * m.x0, k * m.y0, k * m.x1, k * m.y1, k * m.x2, k * m.y2, k * m.x3, k * m.y3⟩
theorem mulC_assoc (a b c : CM) : mulC (mulC a b) c = mulC a (mulC b c) := by
  simp only [mulC, CM.mk.injEq]
  refine ⟨?_, ?_, ?_, ?_, ?_, ?_, ?_, ?_⟩ <;> grind
theorem mulC_id (a : CM) : mulC a idC = a := by simp [mulC, idC]
theorem id_mulC (a : CM) : mulC idC a = a := by simp [mulC, idC]
theorem smul_mulC (k : Int) (a b : CM) : mulC (smulC k a) b = smulC k (mulC a b) := by
  simp only [mulC, smulC, CM.mk.injEq]
  refine ⟨?_, ?_, ?_, ?_, ?_, ?_, ?_, ?_⟩ <;> grind
theorem mulC_smul (k : Int) (a b : CM) : mulC a (smulC k b) = smulC k (mulC a b) := by
  simp only [mulC, smulC, CM.mk.injEq]
  refine ⟨?_, ?_, ?_, ?_, ?_, ?_, ?_, ?_⟩ <;> grind
theorem smul_smul (k l : Int) (a : CM) : smulC k (smulC l a) = smulC (k * l) a := by simp [smulC, Int.mul_assoc]
/-- The same up to the bottoms. -/
def Eqv (a : CM) (d : Int) (b : CM) (e : Int) : Prop := smulC e a = smulC d b
theorem Eqv.refl (a : CM) (d : Int) : Eqv a d a d := rfl
theorem Eqv.symm {a b : CM} {d e : Int} (h : Eqv a d b e) : Eqv b e a d := Eq.symm h
theorem smul_inj {k : Int} {a b : CM} (hk : 1 ≤ k) (h : smulC k a = smulC k b) : a = b := by
  simp only [smulC, CM.mk.injEq] at h
  obtain ⟨h0, h1, h2, h3, h4, h5, h6, h7⟩ := h
  cases a; cases b
  simp only [CM.mk.injEq]
  exact ⟨cancel hk h0, cancel hk h1, cancel hk h2, cancel hk h3, cancel hk h4, cancel hk h5, cancel hk h6, cancel hk h7⟩
theorem Eqv.trans {a b c : CM} {d e f : Int} (he : 1 ≤ e) (h : Eqv a d b e) (k : Eqv b e c f) : Eqv a d c f := by
  unfold Eqv at *
  apply smul_inj he
  rw [smul_smul, Int.mul_comm e f, ← smul_smul, h, smul_smul, Int.mul_comm f d, ← smul_smul, k, smul_smul, smul_smul, Int.mul_comm]
theorem Eqv.mul {a a' b b' : CM} {d d' e e' : Int} (h : Eqv a d a' d') (k : Eqv b e b' e') : Eqv (mulC a b) (d * e) (mulC a' b') (d' * e') := by
  unfold Eqv at *
  rw [← smul_smul, ← mulC_smul, ← smul_mulC, h, k, smul_mulC, mulC_smul, smul_smul]
/-- The matrix stands for these numbers. -/
def RC (m : Mt) (a : CM) (d : Int) : Prop := RM m a.x0 a.y0 a.x1 a.y1 a.x2 a.y2 a.x3 a.y3 d
theorem rc_times {m n r : Mt} {a b : CM} {d e : Int} (hm : RC m a d) (hn : RC n b e) (h : mtimesI m n = some r) : RC r (mulC a b) (d * e) := rm_times hm hn h
theorem rep_scale {f : Fr} {x y d k : Int} (hk : 1 ≤ k) (h : Rep f x y d) : Rep f (k * x) (k * y) (k * d) := by
  obtain ⟨h0, h1, h2, h3⟩ := h
  refine ⟨h0, ?_, ?_, ?_⟩
  · have := Int.mul_le_mul hk h1 (by omega) (by omega)
    omega
  · clear h3; grind
  · clear h2; grind
theorem RC.pos {m : Mt} {a : CM} {d : Int} (h : RC m a d) : 1 ≤ d := h.a.pos
theorem rc_uniq {m n : Mt} {a b : CM} {d e : Int} (hm : RC m a d) (hn : RC n b e) (h : Eqv a d b e) : m = n := by
  have hd := hm.pos
  have he := hn.pos
  unfold Eqv at h
  simp only [smulC, CM.mk.injEq] at h
  obtain ⟨h0, h1, h2, h3, h4, h5, h6, h7⟩ := h
  have key : ∀ {f g : Fr} {x y u v : Int}, Rep f x y d → Rep g u v e → e * x = d * u → e * y = d * v → f = g := by
    intro f g x y u v hf hg e1 e2
    refine rep_uniq (rep_scale he hf) ?_
    have := rep_scale hd hg
    rwa [← e1, ← e2, Int.mul_comm d e] at this
  cases m; cases n
  simp only [Mt.mk.injEq]
  exact ⟨key hm.a hn.a h0 h1, key hm.b hn.b h2 h3, key hm.c hn.c h4 h5, key hm.d hn.d h6 h7⟩
def powC (a : CM) : Nat → CM
  | 0 => idC
  | j + 1 => mulC a (powC a j)
theorem powC_add (a : CM) (i j : Nat) : powC a (i + j) = mulC (powC a i) (powC a j) := by
  induction i with
  | zero => rw [Nat.zero_add]; exact (id_mulC _).symm
  | succ i ih => rw [Nat.succ_add]; show mulC a (powC a (i + j)) = mulC (mulC a (powC a i)) (powC a j); rw [ih, mulC_assoc]
/-- A plate's power. -/
def WC (c s a b : Int) : CM := ⟨c * c + s * s * a, s * s * b, c * s * (1 - a), -(c * s * b), c * s * (1 - a), -(c * s * b), s * s + c * c * a, c * c * b⟩
theorem wc_mul {c s n a b a' b' : Int} (hc : c * c + s * s = n * n) : mulC (WC c s a b) (WC c s a' b') = smulC (n * n) (WC c s (a * a' - b * b') (a * b' + b * a')) := by
  simp only [mulC, WC, smulC, CM.mk.injEq]
  refine ⟨?_, ?_, ?_, ?_, ?_, ?_, ?_, ?_⟩ <;> grind
theorem wc_one {c s n : Int} (hc : c * c + s * s = n * n) : WC c s 1 0 = smulC (n * n) idC := by
  simp only [WC, smulC, idC, CM.mk.injEq]
  refine ⟨?_, ?_, ?_, ?_, ?_, ?_, ?_, ?_⟩ <;> grind
def nS (s : Sec) : Int := (s.p * s.p + s.q * s.q) * (s.p * s.p + s.q * s.q)
def wS (s : Sec) : CM := WC (s.p * s.p - s.q * s.q) (2 * s.p * s.q) (phR s.ph) (phJ s.ph)
def pstep (A : CM × Int) (s : Sec) : CM × Int := (mulC (powC (wS s) s.t.toNat) A.1, nS s ^ s.t.toNat * A.2)
def prodL (xs : List Sec) : CM × Int := xs.foldl pstep (idC, 1)
theorem prodL_snoc (xs : List Sec) (s : Sec) : prodL (xs ++ [s]) = pstep (prodL xs) s := by simp [prodL]
theorem pow_pos' {n : Int} (h : 1 ≤ n) : ∀ j : Nat, 1 ≤ n ^ j
  | 0 => by simp
  | j + 1 => by
    have := Int.mul_le_mul (pow_pos' h j) h (by omega) (by have := pow_pos' h j; omega)
    rw [Int.pow_succ]
    omega
theorem mulN_rc {pl : Mt} {a b : CM} {d e : Int} (hp : RC pl a d) {m : Mt} (hm : RC m b e) : ∀ (j : Nat) (r : Mt), mulN pl j m = some r → RC r (mulC (powC a j) b) (d ^ j * e)
  | 0, r, h => by
    obtain rfl := Option.some.inj h
    rw [show powC a 0 = idC from rfl, id_mulC, Int.pow_zero, Int.one_mul]
    exact hm
  | j + 1, r, h => by
    rw [mulN] at h
    cases hx : mulN pl j m with
    | none => rw [hx] at h; cases h
    | some x =>
      rw [hx] at h
      have := rc_times hp (mulN_rc hp hm j x hx) h
      rw [show powC a (j + 1) = mulC a (powC a j) from rfl, mulC_assoc, Int.pow_succ, Int.mul_comm (d ^ j) d, Int.mul_assoc]
      exact this
theorem nS_pos {s : Sec} (h : secOk s = true) : 1 ≤ nS s := by
  have hd : dirOk s.p s.q = true := by
    simp only [secOk, Bool.and_eq_true] at h
    exact h.1.1
  have b := dir_bd s.p s.q hd
  have := Int.mul_le_mul b.1.1 b.1.1 (by omega) (by omega)
  unfold nS
  omega
theorem wS_sq {s : Sec} : (s.p * s.p - s.q * s.q) * (s.p * s.p - s.q * s.q) + 2 * s.p * s.q * (2 * s.p * s.q) = (s.p * s.p + s.q * s.q) * (s.p * s.p + s.q * s.q) := by grind
theorem fold_rc : ∀ (ys : List Sec) (o : Option Mt) (A : CM × Int), (∀ m, o = some m → RC m A.1 A.2) → (∀ s ∈ ys, secOk s = true) → ∀ m, ys.foldl fibStep o = some m → RC m (ys.foldl pstep A).1 (ys.foldl pstep A).2
  | [], o, A, h, _, m, e => h m e
  | s :: ys, o, A, h, hok, m, e => by
    refine fold_rc ys (fibStep o s) (pstep A s) (fun r hr => ?_) (fun z hz => hok z (by simp [hz])) m e
    have hs := hok s (by simp)
    have hd : dirOk s.p s.q = true ∧ inB s.ph 0 3 = true := by
      simp only [secOk, Bool.and_eq_true] at hs
      exact hs.1
    cases ho : o with
    | none => rw [ho] at hr; cases hr
    | some x =>
      rw [ho] at hr
      have h1 : fibStep (some x) s = (plateI s.p s.q s.ph).bind fun pl => mulN pl s.t.toNat x := rfl
      rw [h1] at hr
      cases hpl : plateI s.p s.q s.ph with
      | none => rw [hpl] at hr; cases hr
      | some pl =>
        rw [hpl] at hr
        exact mulN_rc (show RC pl (wS s) (nS s) from plate_rw hd.1 hd.2 hpl) (h x ho) _ r hr
theorem fib_rc {xs : List Sec} {m : Mt} (h : fibMatI xs = some m) : RC m (prodL xs).1 (prodL xs).2 := by
  unfold fibMatI at h
  split at h
  · rename_i hf
    rw [fibK, List.take_length] at h
    refine fold_rc xs (some oneM) (idC, 1) (fun r hr => ?_) (fun s hs => ?_) m h
    · obtain rfl := Option.some.inj hr
      refine ⟨⟨by decide, by decide, by decide, by decide⟩, ⟨by decide, by decide, by decide, by decide⟩, ⟨by decide, by decide, by decide, by decide⟩, ⟨by decide, by decide, by decide, by decide⟩⟩
    · simp only [fibOk, Bool.and_eq_true] at hf
      exact List.all_eq_true.1 hf.1 s hs
  · cases h
/-- Two products up to a factor. -/
def Same (A B : CM × Int) : Prop := (1 ≤ A.2 ∧ 1 ≤ B.2) ∧ Eqv A.1 A.2 B.1 B.2
theorem Same.refl {A : CM × Int} (h : 1 ≤ A.2) : Same A A := ⟨⟨h, h⟩, Eqv.refl _ _⟩
theorem Same.trans {A B C : CM × Int} (h : Same A B) (k : Same B C) : Same A C := ⟨⟨h.1.1, k.1.2⟩, h.2.trans h.1.2 k.2⟩
theorem Same.symm {A B : CM × Int} (h : Same A B) : Same B A := ⟨⟨h.1.2, h.1.1⟩, h.2.symm⟩
theorem pos_mul {a b : Int} (ha : 1 ≤ a) (hb : 1 ≤ b) : 1 ≤ a * b := by
  have := Int.mul_le_mul ha hb (by omega) (by omega)
  omega
theorem Same.step {A B : CM × Int} (h : Same A B) {s : Sec} (hs : 1 ≤ nS s) : Same (pstep A s) (pstep B s) :=
  ⟨⟨pos_mul (pow_pos' hs _) h.1.1, pos_mul (pow_pos' hs _) h.1.2⟩, Eqv.mul (Eqv.refl _ _) h.2⟩
theorem wc_pow {c s n a b : Int} (hc : c * c + s * s = n * n) : ∀ j : Nat, Eqv (powC (WC c s a b) j) ((n * n) ^ j) (WC c s (cpow a b j).1 (cpow a b j).2) (n * n)
  | 0 => by
    unfold Eqv
    rw [show (cpow a b 0) = (1, 0) from rfl, wc_one hc, show powC (WC c s a b) 0 = idC from rfl, Int.pow_zero, smul_smul, Int.one_mul]
  | j + 1 => by
    have ih := wc_pow (a := a) (b := b) hc j
    unfold Eqv at ih ⊢
    rw [show powC (WC c s a b) (j + 1) = mulC (WC c s a b) (powC (WC c s a b) j) from rfl, ← mulC_smul, ih, mulC_smul, wc_mul hc, smul_smul, Int.pow_succ]
    rfl
theorem cpow_add (a b : Int) (i : Nat) : ∀ j : Nat, cpow a b j = (1, 0) → cpow a b (i + j) = cpow a b i := by
  intro j hj
  induction i with
  | zero => rw [Nat.zero_add, hj]; rfl
  | succ i ih => rw [Nat.succ_add, cpow, ih]; rfl
theorem cpow_mod {k : Int} (hk : inB k 0 3 = true) (t : Nat) : cpow (phR k) (phJ k) t = cpow (phR k) (phJ k) (t % (beatI k).toNat) := by
  have hb := beat_pow hk
  have h : ∀ (m r : Nat), cpow (phR k) (phJ k) (r + m * (beatI k).toNat) = cpow (phR k) (phJ k) r := by
    intro m r
    induction m with
    | zero => rw [Nat.zero_mul, Nat.add_zero]
    | succ m ih => rw [Nat.succ_mul, ← Nat.add_assoc, cpow_add _ _ _ _ hb, ih]
  conv => lhs; rw [← Nat.mod_add_div t (beatI k).toNat, Nat.mul_comm]
  exact h _ _
theorem powC_mod {s : Sec} (hs : secOk s = true) (t : Nat) : Same (powC (wS s) t, nS s ^ t) (powC (wS s) (t % (beatI s.ph).toNat), nS s ^ (t % (beatI s.ph).toNat)) := by
  have hn := nS_pos hs
  have hk : inB s.ph 0 3 = true := by
    simp only [secOk, Bool.and_eq_true] at hs
    exact hs.1.2
  have e1 := wc_pow (a := phR s.ph) (b := phJ s.ph) (wS_sq (s := s)) t
  have e2 := wc_pow (a := phR s.ph) (b := phJ s.ph) (wS_sq (s := s)) (t % (beatI s.ph).toNat)
  rw [cpow_mod hk] at e1
  exact ⟨⟨pow_pos' hn _, pow_pos' hn _⟩, Eqv.trans hn e1 e2.symm⟩
theorem pstep_mod {A : CM × Int} {s : Sec} (hs : secOk { s with t := 0 } = true) (hA : 1 ≤ A.2) (ht : 0 ≤ s.t) : Same (pstep A { s with t := s.t % beatI s.ph }) (pstep A s) := by
  have hb := beatI_bd s.ph
  have h := powC_mod hs s.t.toNat
  have hn := nS_pos hs
  have e : (s.t % beatI s.ph).toNat = s.t.toNat % (beatI s.ph).toNat := by
    obtain ⟨a, ha⟩ := Int.eq_ofNat_of_zero_le ht
    obtain ⟨b, hb'⟩ := Int.eq_ofNat_of_zero_le (show 0 ≤ beatI s.ph by omega)
    rw [ha, hb']
    rfl
  have h1 : nS { s with t := s.t % beatI s.ph } = nS s := rfl
  have h2 : wS { s with t := s.t % beatI s.ph } = wS s := rfl
  have h3 : nS { s with t := 0 } = nS s := rfl
  have h4 : wS { s with t := 0 } = wS s := rfl
  rw [h3] at hn
  rw [h3, h4] at h
  refine ⟨⟨?_, ?_⟩, ?_⟩
  · unfold pstep; rw [h1]; exact pos_mul (pow_pos' hn _) hA
  · unfold pstep; exact pos_mul (pow_pos' hn _) hA
  · unfold pstep
    rw [h1, h2]
    show Eqv (mulC (powC (wS s) (s.t % beatI s.ph).toNat) A.1) (nS s ^ (s.t % beatI s.ph).toNat * A.2) _ _
    rw [e]
    exact Eqv.mul h.2.symm (Eqv.refl _ _)
theorem pstep_zero {A : CM × Int} {s : Sec} (h : s.t = 0) : pstep A s = A := by
  unfold pstep
  rw [h]
  rw [Int.toNat_zero, Int.pow_zero, Int.one_mul, show powC (wS s) 0 = idC from rfl, id_mulC]
theorem prodL_pos : ∀ (ys : List Sec) (A : CM × Int), 1 ≤ A.2 → (∀ s ∈ ys, 1 ≤ nS s) → 1 ≤ (ys.foldl pstep A).2
  | [], A, h, _ => h
  | s :: ys, A, h, hs => prodL_pos ys _ (pos_mul (pow_pos' (hs s (by simp)) _) h) (fun z hz => hs z (by simp [hz]))
/-- A section whose direction and phase can be told. -/
def dirSec (s : Sec) : Prop := secOk { s with t := 0 } = true
theorem dirSec_of {s : Sec} (h : secOk s = true) : dirSec s := by
  unfold dirSec
  simp only [secOk, Bool.and_eq_true] at h ⊢
  exact ⟨h.1, by decide⟩
theorem dirSec_t {s : Sec} (h : dirSec s) (x : Int) : dirSec { s with t := x } := h
theorem dirSec_n {s : Sec} (h : dirSec s) : 1 ≤ nS s := nS_pos (s := { s with t := 0 }) h
theorem putS_same {out : List Sec} {s : Sec} (hs : dirSec s) (ho : ∀ z ∈ out, dirSec z) (ht : 0 ≤ s.t) : Same (prodL (putS out s)) (pstep (prodL out) s) := by
  have hp : 1 ≤ (prodL out).2 := prodL_pos out _ (by decide) (fun z hz => dirSec_n (ho z hz))
  have h := pstep_mod (A := prodL out) hs hp ht
  unfold putS
  split
  · rw [prodL_snoc]; exact h
  · rename_i hn
    have hz : s.t % beatI s.ph = 0 := by
      have := mod_bd s.t (beatI s.ph) (beatI_bd _).1 (beatI_bd _).2
      omega
    rwa [pstep_zero (s := { s with t := s.t % beatI s.ph }) hz] at h
theorem sameSec_eq {a b : Sec} (h : sameSec a b = true) : a.p = b.p ∧ a.q = b.q ∧ a.ph = b.ph := by
  simpa [sameSec] using h
theorem shortStep_same {out : List Sec} {s : Sec} (hs : dirSec s) (ho : ∀ z ∈ out, dirSec z) (hz : ∀ z ∈ out, small z) (ht : 0 ≤ s.t) : Same (prodL (shortStep out s)) (pstep (prodL out) s) := by
  unfold shortStep
  cases hl : out.getLast? with
  | none => exact putS_same hs ho ht
  | some l =>
    simp only []
    split
    · rename_i hsame
      obtain ⟨e1, e2, e3⟩ := sameSec_eq hsame
      have hm : l ∈ out := List.mem_of_getLast? hl
      have hlt := (hz l hm).1
      have hout : out = out.dropLast ++ [l] := by
        rw [List.getLast?_eq_some_iff] at hl
        obtain ⟨ys, rfl⟩ := hl
        simp
      have h1 := putS_same (out := out.dropLast) (s := { s with t := s.t + l.t }) (dirSec_t hs _) (fun z hz => ho z (List.dropLast_subset _ hz)) (by show 0 ≤ s.t + l.t; omega)
      have h2 : pstep (prodL out.dropLast) { s with t := s.t + l.t } = pstep (prodL out) s := by
        conv => rhs; rw [hout, prodL_snoc]
        have en : nS l = nS s := by unfold nS; rw [e1, e2]
        have ew : wS l = wS s := by unfold wS; rw [e1, e2, e3]
        have et : (s.t + l.t).toNat = s.t.toNat + l.t.toNat := by omega
        show (mulC (powC (wS s) (s.t + l.t).toNat) (prodL out.dropLast).1, nS s ^ (s.t + l.t).toNat * (prodL out.dropLast).2) = (mulC (powC (wS s) s.t.toNat) (mulC (powC (wS l) l.t.toNat) (prodL out.dropLast).1), nS s ^ s.t.toNat * (nS l ^ l.t.toNat * (prodL out.dropLast).2))
        rw [en, ew, et, powC_add, mulC_assoc, Int.pow_add, Int.mul_assoc]
      rwa [h2] at h1
    · exact putS_same hs ho ht
theorem putS_dir {out : List Sec} {s : Sec} (hs : dirSec s) (ho : ∀ z ∈ out, dirSec z) : ∀ z ∈ putS out s, dirSec z := by
  intro z hz
  unfold putS at hz
  split at hz
  · rcases List.mem_append.1 hz with hz | hz
    · exact ho z hz
    · simp only [List.mem_singleton] at hz
      subst hz
      exact hs
  · exact ho z hz
theorem step_dir {out : List Sec} {s : Sec} (hs : dirSec s) (ho : ∀ z ∈ out, dirSec z) : ∀ z ∈ shortStep out s, dirSec z := by
  unfold shortStep
  split
  · split
    · exact putS_dir (dirSec_t hs _) (fun z hz => ho z (List.dropLast_subset _ hz))
    · exact putS_dir hs ho
  · exact putS_dir hs ho
theorem fold_same : ∀ (ys out : List Sec) (A : CM × Int), (∀ s ∈ ys, secOk s = true) → (∀ z ∈ out, dirSec z) → (∀ z ∈ out, small z) → Same (prodL out) A → Same (prodL (ys.foldl shortStep out)) (ys.foldl pstep A)
  | [], out, A, _, _, _, h => h
  | s :: ys, out, A, hy, ho, hz, h => by
    have hs := hy s (by simp)
    have ht : 0 ≤ s.t := by
      simp only [secOk, Bool.and_eq_true, inB_iff] at hs
      exact hs.2.1
    have h1 := shortStep_same (dirSec_of hs) ho hz ht
    exact fold_same ys _ _ (fun z hz => hy z (by simp [hz])) (step_dir (dirSec_of hs) ho) (step_small hz) (h1.trans (h.step (dirSec_n (dirSec_of hs))))
theorem fibOk_all {xs : List Sec} (h : fibOk xs = true) : ∀ s ∈ xs, secOk s = true := by
  simp only [fibOk, Bool.and_eq_true] at h
  exact List.all_eq_true.1 h.1
theorem short_same {xs : List Sec} (h : fibOk xs = true) : Same (prodL (shortI xs)) (prodL xs) := by
  rw [shortI, if_pos h, shortK, List.take_length]
  exact fold_same xs [] (idC, 1) (fibOk_all h) (fun z hz => by cases hz) (fun z hz => by cases hz) (Same.refl (by decide))
/-- Where both matrices can be told they are the same. -/
theorem short_mat {xs : List Sec} {m n : Mt} (h : fibOk xs = true) (hm : fibMatI xs = some m) (hn : fibMatI (shortI xs) = some n) : m = n :=
  rc_uniq (fib_rc hm) (fib_rc hn) (short_same h).2.symm
/-- The matrix mirrored and turned over. -/
def adjC (m : CM) : CM := ⟨m.x0, -m.y0, m.x2, -m.y2, m.x1, -m.y1, m.x3, -m.y3⟩
theorem adj_mul (a b : CM) : adjC (mulC a b) = mulC (adjC b) (adjC a) := by
  simp only [mulC, adjC, CM.mk.injEq]
  refine ⟨?_, ?_, ?_, ?_, ?_, ?_, ?_, ?_⟩ <;> grind
theorem adj_id : adjC idC = idC := by simp [adjC, idC]
/-- No light is lost. -/
def Uni (A : CM × Int) : Prop := mulC (adjC A.1) A.1 = smulC (A.2 * A.2) idC ∧ mulC A.1 (adjC A.1) = smulC (A.2 * A.2) idC
theorem uni_one : Uni (idC, 1) := by
  constructor <;> simp [mulC, adjC, smulC, idC]
theorem Uni.mul {A B : CM × Int} (h : Uni A) (k : Uni B) : Uni (mulC A.1 B.1, A.2 * B.2) := by
  have e : A.2 * A.2 * (B.2 * B.2) = A.2 * B.2 * (A.2 * B.2) := by grind
  constructor
  · show mulC (adjC (mulC A.1 B.1)) (mulC A.1 B.1) = smulC (A.2 * B.2 * (A.2 * B.2)) idC
    rw [adj_mul, mulC_assoc, ← mulC_assoc (adjC A.1) A.1 B.1, h.1, smul_mulC, id_mulC, mulC_smul, k.1, smul_smul, e]
  · show mulC (mulC A.1 B.1) (adjC (mulC A.1 B.1)) = smulC (A.2 * B.2 * (A.2 * B.2)) idC
    rw [adj_mul, mulC_assoc, ← mulC_assoc B.1 (adjC B.1) (adjC A.1), k.2, smul_mulC, id_mulC, mulC_smul, h.2, smul_smul, Int.mul_comm, e]
theorem wc_adj (c s a b : Int) : adjC (WC c s a b) = WC c s a (-b) := by
  simp only [WC, adjC, CM.mk.injEq]
  refine ⟨?_, ?_, ?_, ?_, ?_, ?_, ?_, ?_⟩ <;> grind
theorem wc_uni {c s n a b : Int} (hc : c * c + s * s = n * n) (hu : a * a + b * b = 1) : Uni (WC c s a b, n * n) := by
  have e1 : a * a - -b * b = 1 := by grind
  have e2 : a * b + -b * a = 0 := by grind
  have e3 : a * a - b * -b = 1 := by grind
  have e4 : a * -b + b * a = 0 := by grind
  constructor
  · show mulC (adjC (WC c s a b)) (WC c s a b) = smulC (n * n * (n * n)) idC
    rw [wc_adj, wc_mul hc, e1, e2, wc_one hc, smul_smul]
  · show mulC (WC c s a b) (adjC (WC c s a b)) = smulC (n * n * (n * n)) idC
    rw [wc_adj, wc_mul hc, e3, e4, wc_one hc, smul_smul]
theorem ph_one {k : Int} (h : inB k 0 3 = true) : phR k * phR k + phJ k * phJ k = 1 := by
  rw [inB_iff] at h
  rcases (show k = 0 ∨ k = 1 ∨ k = 2 ∨ k = 3 by omega) with rfl | rfl | rfl | rfl <;> decide
theorem wS_uni {s : Sec} (hs : secOk s = true) : Uni (wS s, nS s) := by
  have hk : inB s.ph 0 3 = true := by
    simp only [secOk, Bool.and_eq_true] at hs
    exact hs.1.2
  exact wc_uni wS_sq (ph_one hk)
theorem Uni.pow {A : CM × Int} (h : Uni A) : ∀ j : Nat, Uni (powC A.1 j, A.2 ^ j)
  | 0 => by
    rw [Int.pow_zero]
    exact uni_one
  | j + 1 => by
    have e : A.2 * A.2 ^ j = A.2 ^ (j + 1) := by rw [Int.pow_succ, Int.mul_comm]
    have k : Uni (mulC A.1 (powC A.1 j), A.2 * A.2 ^ j) := Uni.mul (A := A) (B := (powC A.1 j, A.2 ^ j)) h (Uni.pow h j)
    rw [e] at k
    exact k
theorem fold_uni : ∀ (xs : List Sec) (A : CM × Int), (∀ s ∈ xs, secOk s = true) → Uni A → Uni (xs.foldl pstep A)
  | [], _, _, h => h
  | s :: xs, A, hs, h => by
    have k : Uni (powC (wS s) s.t.toNat, nS s ^ s.t.toNat) := Uni.pow (A := (wS s, nS s)) (wS_uni (hs s (by simp))) _
    exact fold_uni xs (pstep A s) (fun z hz => hs z (by simp [hz])) (Uni.mul (A := (powC (wS s) s.t.toNat, nS s ^ s.t.toNat)) (B := A) k h)
theorem prodL_uni {xs : List Sec} (hs : ∀ s ∈ xs, secOk s = true) : Uni (prodL xs) := fold_uni xs _ hs uni_one
theorem fold_mul : ∀ (ys : List Sec) (A : CM × Int), ys.foldl pstep A = (mulC (prodL ys).1 A.1, (prodL ys).2 * A.2)
  | [], A => by
    show A = (mulC idC A.1, 1 * A.2)
    rw [id_mulC, Int.one_mul]
  | s :: ys, A => by
    have h1 := fold_mul ys (pstep A s)
    have h2 := fold_mul ys (pstep (idC, 1) s)
    have e : prodL (s :: ys) = ys.foldl pstep (pstep (idC, 1) s) := rfl
    rw [e, h2]
    show ys.foldl pstep (pstep A s) = _
    rw [h1]
    show (mulC (prodL ys).1 (mulC (powC (wS s) s.t.toNat) A.1), (prodL ys).2 * (nS s ^ s.t.toNat * A.2)) = (mulC (mulC (prodL ys).1 (mulC (powC (wS s) s.t.toNat) idC)) A.1, (prodL ys).2 * (nS s ^ s.t.toNat * 1) * A.2)
    rw [mulC_id, mulC_assoc, Int.mul_one, Int.mul_assoc]
theorem powC_snoc (a : CM) (j : Nat) : powC a (j + 1) = mulC (powC a j) a := by
  rw [powC_add, show powC a 1 = mulC a idC from rfl, mulC_id]
theorem adj_pow (a : CM) : ∀ j : Nat, adjC (powC a j) = powC (adjC a) j
  | 0 => adj_id
  | j + 1 => by
    rw [powC_snoc, adj_mul, adj_pow a j]
    rfl
theorem turn_w {s : Sec} (hs : secOk s = true) : wS (turnS s) = adjC (wS s) := by
  have hk : inB s.ph 0 3 = true := by
    simp only [secOk, Bool.and_eq_true] at hs
    exact hs.1.2
  have h : phR ((4 - s.ph).tmod 4) = phR s.ph ∧ phJ ((4 - s.ph).tmod 4) = -phJ s.ph := by
    rw [inB_iff] at hk
    generalize s.ph = k at hk
    rcases (show k = 0 ∨ k = 1 ∨ k = 2 ∨ k = 3 by omega) with rfl | rfl | rfl | rfl <;> decide
  unfold wS
  rw [wc_adj, ← h.2]
  show WC _ _ (phR ((4 - s.ph).tmod 4)) _ = _
  rw [h.1]
  rfl
/-- The way back is the matrix turned over. -/
theorem back_prod : ∀ (xs : List Sec), (∀ s ∈ xs, secOk s = true) → prodL (xs.reverse.map turnS) = (adjC (prodL xs).1, (prodL xs).2)
  | [], _ => by
    show (idC, (1 : Int)) = (adjC idC, 1)
    rw [adj_id]
  | s :: xs, h => by
    have ih := back_prod xs (fun z hz => h z (by simp [hz]))
    have hs := h s (by simp)
    have e : prodL (s :: xs) = xs.foldl pstep (pstep (idC, 1) s) := rfl
    rw [List.reverse_cons, List.map_append, List.map_cons, List.map_nil, prodL_snoc, ih, e, fold_mul]
    show (mulC (powC (wS (turnS s)) s.t.toNat) (adjC (prodL xs).1), nS s ^ s.t.toNat * (prodL xs).2) = (adjC (mulC (prodL xs).1 (mulC (powC (wS s) s.t.toNat) idC)), (prodL xs).2 * (nS s ^ s.t.toNat * 1))
    rw [turn_w hs, mulC_id, adj_mul, adj_pow, Int.mul_one, Int.mul_comm]
theorem back_ok {xs : List Sec} (h : fibOk xs = true) : fibOk (backI xs) = true := by
  rw [backI, if_pos h]
  simp only [fibOk, Bool.and_eq_true, decide_eq_true_eq, List.length_map, List.length_reverse] at h ⊢
  refine ⟨?_, h.2⟩
  rw [List.all_eq_true]
  intro z hz
  obtain ⟨s, hs, rfl⟩ := List.mem_map.1 hz
  have := List.all_eq_true.1 h.1 s (by simpa using hs)
  simp only [secOk, Bool.and_eq_true] at this ⊢
  refine ⟨⟨this.1.1, ?_⟩, this.2⟩
  have hk := this.1.2
  show inB ((4 - s.ph).tmod 4) 0 3 = true
  rw [inB_iff] at hk ⊢
  generalize s.ph = k at hk
  rcases (show k = 0 ∨ k = 1 ∨ k = 2 ∨ k = 3 by omega) with rfl | rfl | rfl | rfl <;> decide
theorem rc_one : RC oneM idC 1 := ⟨⟨by decide, by decide, by decide, by decide⟩, ⟨by decide, by decide, by decide, by decide⟩, ⟨by decide, by decide, by decide, by decide⟩, ⟨by decide, by decide, by decide, by decide⟩⟩
theorem fib_ok {xs : List Sec} {m : Mt} (h : fibMatI xs = some m) : fibOk xs = true := by
  unfold fibMatI at h
  split at h
  · assumption
  · cases h
theorem rc_back {xs : List Sec} {m : Mt} (h : fibOk xs = true) (hb : fibMatI (backI xs) = some m) : RC m (adjC (prodL xs).1) (prodL xs).2 := by
  have h1 := fib_rc hb
  have e : backI xs = xs.reverse.map turnS := by rw [backI, if_pos h]
  rw [e, back_prod xs (fibOk_all h)] at h1
  exact h1
/-- There and back: nothing has turned. -/
theorem back_one {xs : List Sec} {m n r : Mt} (hm : fibMatI xs = some m) (hn : fibMatI (backI xs) = some n) (hr : mtimesI n m = some r) : r = oneM := by
  have h := fib_ok hm
  refine rc_uniq (rc_times (rc_back h hn) (fib_rc hm) hr) rc_one ?_
  unfold Eqv
  rw [(prodL_uni (fibOk_all h)).1, smul_smul, Int.one_mul]
theorem rc_adj {m : Mt} {P : CM} {d : Int} (h : RC m P d) : ∃ a, madjI m = some a ∧ RC a (adjC P) d := by
  have h0 := rep_mirror h.a
  have h1 := rep_mirror h.b
  have h2 := rep_mirror h.c
  have h3 := rep_mirror h.d
  exact ⟨_, by rw [madjI, h0.1, h1.1, h2.1, h3.1]; rfl, h0.2, h2.2, h1.2, h3.2⟩
theorem fib_adj {xs : List Sec} {m : Mt} (hm : fibMatI xs = some m) : ∃ a, madjI m = some a ∧ ∀ r, mtimesI m a = some r → r = oneM := by
  have h := fib_ok hm
  obtain ⟨a, ha, hr⟩ := rc_adj (fib_rc hm)
  refine ⟨a, ha, fun r e => rc_uniq (rc_times (fib_rc hm) hr e) rc_one ?_⟩
  unfold Eqv
  rw [(prodL_uni (fibOk_all h)).2, smul_smul, Int.one_mul]
/-- A vector of whole complex numbers. -/
structure CV where
  x0 : Int
  y0 : Int
  x1 : Int
  y1 : Int
def appC (m : CM) (v : CV) : CV := ⟨(m.x0 * v.x0 - m.y0 * v.y0) + (m.x1 * v.x1 - m.y1 * v.y1), (m.x0 * v.y0 + m.y0 * v.x0) + (m.x1 * v.y1 + m.y1 * v.x1), (m.x2 * v.x0 - m.y2 * v.y0) + (m.x3 * v.x1 - m.y3 * v.y1), (m.x2 * v.y0 + m.y2 * v.x0) + (m.x3 * v.y1 + m.y3 * v.x1)⟩
def smulV (k : Int) (v : CV) : CV := ⟨k * v.x0, k * v.y0, k * v.x1, k * v.y1⟩
theorem appC_mul (a b : CM) (v : CV) : appC (mulC a b) v = appC a (appC b v) := by
  simp only [mulC, appC, CV.mk.injEq]
  refine ⟨?_, ?_, ?_, ?_⟩ <;> grind
theorem appC_smul (k : Int) (v : CV) : appC (smulC k idC) v = smulV k v := by
  simp [appC, smulC, idC, smulV]
theorem smulV_smulV (k l : Int) (v : CV) : smulV k (smulV l v) = smulV (k * l) v := by simp [smulV, Int.mul_assoc]
/-- The vector stands for these numbers. -/
structure RV (j : Jn) (v : CV) (d : Int) : Prop where
  x : Rep j.x v.x0 v.y0 d
  y : Rep j.y v.x1 v.y1 d
theorem RV.pos {j : Jn} {v : CV} {d : Int} (h : RV j v d) : 1 ≤ d := h.x.pos
theorem RV.valid {j : Jn} {v : CV} {d : Int} (h : RV j v d) : jvalid j = true := by simp [jvalid, h.x.ok, h.y.ok]
theorem rep_self {f : Fr} (h : fvalid f = true) : Rep f f.re f.im f.den := ⟨h, (fvalid_bd f h).2.2.1, rfl, rfl⟩
theorem rv_of {j : Jn} (h : jvalid j = true) : ∃ v d, RV j v d := by
  simp only [jvalid, Bool.and_eq_true] at h
  have bx := (fvalid_bd _ h.1).2.2.1
  have bd := (fvalid_bd _ h.2).2.2.1
  refine ⟨⟨j.y.den * j.x.re, j.y.den * j.x.im, j.x.den * j.y.re, j.x.den * j.y.im⟩, j.y.den * j.x.den, rep_scale bd (rep_self h.1), ?_⟩
  have k := rep_scale bx (rep_self h.2)
  rw [Int.mul_comm j.x.den j.y.den] at k
  exact k
theorem rv_apply {m : Mt} {v r : Jn} {a : CM} {u : CV} {d e : Int} (hm : RC m a d) (hv : RV v u e) (h : mapplyI m v = some r) : RV r (appC a u) (d * e) := by
  rw [mapplyI, show mvalid m = true from RM.valid hm, hv.valid] at h
  simp only [Bool.and_self, if_true] at h
  cases hx : innerI m.a v.x m.b v.y with
  | none => rw [hx] at h; cases h
  | some x =>
    cases hy : innerI m.c v.x m.d v.y with
    | none => rw [hx, hy] at h; cases h
    | some y =>
      rw [hx, hy] at h
      obtain rfl := Option.some.inj h
      exact ⟨val_inner hm.a hv.x hm.b hv.y hx, val_inner hm.c hv.x hm.d hv.y hy⟩
theorem rv_uniq {v r : Jn} {a b : CV} {d e : Int} (hv : RV v a d) (hr : RV r b e) (h : smulV e a = smulV d b) : v = r := by
  have hd := hv.pos
  have he := hr.pos
  simp only [smulV, CV.mk.injEq] at h
  obtain ⟨h0, h1, h2, h3⟩ := h
  have key : ∀ {f g : Fr} {x y u v : Int}, Rep f x y d → Rep g u v e → e * x = d * u → e * y = d * v → f = g := by
    intro f g x y u v hf hg e1 e2
    refine rep_uniq (rep_scale he hf) ?_
    have := rep_scale hd hg
    rwa [← e1, ← e2, Int.mul_comm d e] at this
  cases v; cases r
  simp only [Jn.mk.injEq]
  exact ⟨key hv.x hr.x h0 h1, key hv.y hr.y h2 h3⟩
theorem run_parts {xs : List Sec} {v w : Jn} (h : fibRunI xs v = some w) : ∃ m, fibMatI xs = some m ∧ mapplyI m v = some w := by
  unfold fibRunI at h
  cases hm : fibMatI xs with
  | none => rw [hm] at h; cases h
  | some m => rw [hm] at h; exact ⟨m, rfl, h⟩
theorem apply_valid {m : Mt} {v w : Jn} (h : mapplyI m v = some w) : jvalid v = true := by
  unfold mapplyI at h
  split at h
  · rename_i hh
    simp only [Bool.and_eq_true] at hh
    exact hh.2
  · cases h
/-- What went through comes back. -/
theorem run_back {xs : List Sec} {v w x : Jn} (h : fibRunI xs v = some w) (k : fibRunI (backI xs) w = some x) : x = v := by
  obtain ⟨m, hm, ha⟩ := run_parts h
  obtain ⟨n, hn, hb⟩ := run_parts k
  have hok := fib_ok hm
  obtain ⟨u, e, hv⟩ := rv_of (apply_valid ha)
  have h1 := rv_apply (rc_back hok hn) (rv_apply (fib_rc hm) hv ha) hb
  rw [← appC_mul, (prodL_uni (fibOk_all hok)).1, appC_smul] at h1
  refine rv_uniq h1 hv ?_
  rw [smulV_smulV, Int.mul_comm, Int.mul_assoc]
def nrm (v : CV) : Int := (v.x0 * v.x0 + v.y0 * v.y0) + (v.x1 * v.x1 + v.y1 * v.y1)
theorem nrm_app (P : CM) (u : CV) : nrm (appC P u) = (mulC (adjC P) P).x0 * (u.x0 * u.x0 + u.y0 * u.y0) + (mulC (adjC P) P).x3 * (u.x1 * u.x1 + u.y1 * u.y1) + 2 * ((mulC (adjC P) P).x1 * (u.x0 * u.x1 + u.y0 * u.y1) - (mulC (adjC P) P).y1 * (u.x0 * u.y1 - u.y0 * u.x1)) := by
  obtain ⟨a, b, c, d, e, f, g, h⟩ := P
  obtain ⟨p, q, r, s⟩ := u
  simp only [nrm, appC, mulC, adjC]
  grind
theorem nrm_uni {P : CM} {k : Int} (h : mulC (adjC P) P = smulC k idC) (u : CV) : nrm (appC P u) = k * nrm u := by
  rw [nrm_app, h]
  simp only [smulC, idC, nrm]
  grind
theorem val_power {f h : Fr} {x y d : Int} (hf : Rep f x y d) (hh : powerI f = some h) : Rep h (x * x + y * y) 0 (d * d) := by
  have e0 : powerI f = lowI (f.re * f.re + f.im * f.im) 0 (f.den * f.den) := by simp [powerI, hf.ok]
  rw [e0] at hh
  have k := mulbd1 f.den f.den hf.bd.1 hf.bd.2 hf.bd.1 hf.bd.2
  have kd : 1 ≤ d * d := pos_mul hf.pos hf.pos
  have h1 := hf.re; have h2 := hf.im
  refine rep_of_val k.1 kd hh ?_ (by simp)
  clear e0 k kd hf hh; grind
theorem val_jpower {v : Jn} {u : CV} {d : Int} {h : Fr} (hv : RV v u d) (hh : jpowerI v = some h) : Rep h (nrm u) 0 (d * d) := by
  rw [jpowerI, hv.valid] at hh
  simp only [if_true] at hh
  cases hx : powerI v.x with
  | none => rw [hx] at hh; cases hh
  | some x =>
    cases hy : powerI v.y with
    | none => rw [hx, hy] at hh; cases hh
    | some y =>
      rw [hx, hy] at hh
      exact val_add_same (val_power hv.x hx) (val_power hv.y hy) hh
/-- No power is lost. -/
theorem run_power {xs : List Sec} {v w : Jn} {a b : Fr} (h : fibRunI xs v = some w) (ha : jpowerI v = some a) (hb : jpowerI w = some b) : a = b := by
  obtain ⟨m, hm, hap⟩ := run_parts h
  have hok := fib_ok hm
  obtain ⟨u, e, hv⟩ := rv_of (apply_valid hap)
  have hr := fib_rc hm
  have hd := hr.pos
  have h1 := val_jpower (rv_apply hr hv hap) hb
  rw [nrm_uni (prodL_uni (fibOk_all hok)).1] at h1
  have h2 := rep_scale (pos_mul hd hd) (val_jpower hv ha)
  generalize (prodL xs).2 = d at *
  rw [show d * e * (d * e) = d * d * (e * e) by grind] at h1
  rw [Int.mul_zero] at h2
  exact rep_uniq h2 h1
/-- Whether light stays the same in a fibre. -/
def fibStaysI (xs : List Sec) (v : Jn) : Bool := match fibRunI xs v with
  | none => false
  | some u => !jdark v && jalikeI v u
theorem rep_inj {f : Fr} {x y u v d : Int} (h : Rep f x y d) (k : Rep f u v d) : x = u ∧ y = v := by
  have b := h.bd
  have h1 := h.re; have h2 := h.im; have h3 := k.re; have h4 := k.im
  refine ⟨cancel (k := f.den) b.1 ?_, cancel (k := f.den) b.1 ?_⟩
  · rw [Int.mul_comm, ← h1, h3, Int.mul_comm]
  · rw [Int.mul_comm, ← h2, h4, Int.mul_comm]
theorem lowI_self {a : Fr} (ha : fvalid a = true) : lowI a.re a.im a.den = some a := by
  have hg := fvalid_gcd a ha
  have hb := fvalid_bd a ha
  unfold lowI
  simp only [hg, Int.tdiv_one, Int.ediv_one]
  rw [if_pos]
  simp only [Bool.and_eq_true, inB_iff, Bool.not_eq_true', decide_eq_false_iff_not]
  exact ⟨⟨hb.1, hb.2.1⟩, by omega⟩
/-- A fraction times i. -/
def jF (f : Fr) : Fr := ⟨-f.im, f.re, f.den⟩
theorem jF_valid {f : Fr} (h : fvalid f = true) : fvalid (jF f) = true := by
  have b := fvalid_bd f h
  have g := fvalid_gcd f h
  have e : gcd3 (-f.im) f.re f.den = gcd3 f.re f.im f.den := by
    simp only [gcd3, gcdI, absI, Int.natAbs_neg]
    congr 3
    exact congrArg _ (Nat.gcd_comm _ _)
  simp only [jF, fvalid, e, g, Bool.and_eq_true, inB_iff, beq_self_eq_true, and_true]
  omega
theorem times_j {f : Fr} (h : fvalid f = true) : timesI f ⟨0, 1, 1⟩ = some (jF f) := by
  have e : lowI (-f.im) f.re f.den = some (jF f) := lowI_self (jF_valid h)
  rw [timesI, h, show fvalid ⟨0, 1, 1⟩ = true by decide]
  simpa using e
theorem rep_j {f : Fr} {x y d : Int} (h : Rep f x y d) : Rep (jF f) (-y) x d := by
  refine ⟨jF_valid h.ok, h.pos, ?_, h.re⟩
  show -f.im * d = -y * f.den
  rw [Int.neg_mul, Int.neg_mul, h.im]
def jJ (v : Jn) : Jn := ⟨jF v.x, jF v.y⟩
theorem jtimes_j {v : Jn} (h : jvalid v = true) : jtimesI v ⟨0, 1, 1⟩ = some (jJ v) := by
  simp only [jvalid, Bool.and_eq_true] at h
  rw [jtimesI, times_j h.1, times_j h.2]
  rfl
def jV (u : CV) : CV := ⟨-u.y0, u.x0, -u.y1, u.x1⟩
theorem rv_j {v : Jn} {u : CV} {d : Int} (h : RV v u d) : RV (jJ v) (jV u) d := ⟨rep_j h.x, rep_j h.y⟩
theorem app_j (P : CM) (u : CV) : appC P (jV u) = jV (appC P u) := by
  simp only [appC, jV, CV.mk.injEq]
  refine ⟨?_, ?_, ?_, ?_⟩ <;> grind
theorem rep_zero_iff {f : Fr} {x y d : Int} (h : Rep f x y d) : (f == ⟨0, 0, 1⟩) = true ↔ x = 0 ∧ y = 0 := by
  have z : Rep ⟨0, 0, 1⟩ 0 0 d := ⟨by decide, h.pos, by simp, by simp⟩
  constructor
  · intro e
    have e := eq_of_beq e
    rw [e] at h
    exact rep_inj h z
  · rintro ⟨rfl, rfl⟩
    rw [rep_uniq h z]
    exact beq_self_eq_true _
theorem rv_dark {v : Jn} {u : CV} {d : Int} (h : RV v u d) : jdark v = true ↔ (u.x0 = 0 ∧ u.y0 = 0) ∧ u.x1 = 0 ∧ u.y1 = 0 := by
  rw [jdark, Bool.and_eq_true, rep_zero_iff h.x, rep_zero_iff h.y]
theorem dark_j {v : Jn} {u : CV} {d : Int} (h : RV v u d) : jdark (jJ v) = jdark v := by
  rw [Bool.eq_iff_iff, rv_dark h, rv_dark (rv_j h)]
  simp only [jV]
  omega
theorem alike_j {v w : Jn} {u W : CV} {d e : Int} (hv : RV v u d) (hw : RV w W e) (h : jalikeI v w = true) (f g : Fr) (h1 : timesI (jJ v).x (jJ w).y = some f) (h2 : timesI (jJ v).y (jJ w).x = some g) : jalikeI (jJ v) (jJ w) = true := by
  simp only [jalikeI, Bool.and_eq_true, beq_iff_eq] at h
  obtain ⟨⟨⟨⟨⟨-, -⟩, a1⟩, a2⟩, a3⟩, a4⟩ := h
  obtain ⟨r, hr⟩ := Option.isSome_iff_exists.1 a1
  have hr2 := hr
  rw [a3] at hr2
  obtain ⟨e1, e2⟩ := rep_inj (val_times hv.x hw.y hr) (val_times hv.y hw.x hr2)
  have hf := val_times (rv_j hv).x (rv_j hw).y h1
  have hg := val_times (rv_j hv).y (rv_j hw).x h2
  have hfg : f = g := by
    refine rep_uniq hf ?_
    simp only [jV] at hf hg ⊢
    rw [show -u.y0 * -W.y1 - u.x0 * W.x1 = -u.y1 * -W.y0 - u.x1 * W.x0 by clear hf hg h1 h2 hr hr2 hv hw; grind, show -u.y0 * W.x1 + u.x0 * -W.y1 = -u.y1 * W.x0 + u.x1 * -W.y0 by clear hf hg h1 h2 hr hr2 hv hw; grind]
    exact hg
  simp only [jalikeI, (rv_j hv).valid, (rv_j hw).valid, h1, h2, hfg, dark_j hv, dark_j hw, a4]
  simp
theorem stays_turn {xs : List Sec} {v t w : Jn} {f g : Fr} (h : fibStaysI xs v = true) (ht : jtimesI v ⟨0, 1, 1⟩ = some t) (hw : fibRunI xs t = some w) (h1 : timesI t.x w.y = some f) (h2 : timesI t.y w.x = some g) : fibStaysI xs t = true := by
  unfold fibStaysI at h
  cases hx : fibRunI xs v with
  | none => rw [hx] at h; cases h
  | some w0 =>
    rw [hx] at h
    simp only [Bool.and_eq_true] at h
    obtain ⟨m, hm, ha⟩ := run_parts hx
    obtain ⟨n, hn, hb⟩ := run_parts hw
    obtain rfl := Option.some.inj (hm.symm.trans hn)
    have hvv := apply_valid ha
    obtain ⟨u, e, hv⟩ := rv_of hvv
    obtain rfl := Option.some.inj ((jtimes_j hvv).symm.trans ht)
    have hr := fib_rc hm
    have hW := rv_apply hr hv ha
    have hT := rv_apply hr (rv_j hv) hb
    rw [app_j] at hT
    have hwj : w = jJ w0 := rv_uniq hT (rv_j hW) rfl
    subst hwj
    unfold fibStaysI
    rw [hw]
    simp only [Bool.and_eq_true]
    rw [dark_j hv]
    exact ⟨h.1, alike_j hv hW h.2 f g h1 h2⟩
theorem stays_told {xs : List Sec} {v : Jn} (h : fibStaysI xs v = true) : jtimesI v ⟨0, 1, 1⟩ = some (jJ v) := by
  unfold fibStaysI at h
  cases hx : fibRunI xs v with
  | none => rw [hx] at h; cases h
  | some w0 =>
    obtain ⟨m, hm, ha⟩ := run_parts hx
    exact jtimes_j (apply_valid ha)
/-- The matrix is one, up to a factor that is not 0. -/
def oneLike (p : Mt) : Bool := p.b == ⟨0, 0, 1⟩ && p.c == ⟨0, 0, 1⟩ && p.a == p.d && !(p.a == ⟨0, 0, 1⟩)
/-- How many times a matrix is applied until nothing has turned; 0: not found. -/
def ordL (m : Mt) : Nat → Int → Mt → Int
  | 0, _, _ => 0
  | f + 1, n, p => if oneLike p then n else match mtimesI m p with
    | none => 0
    | some q => ordL m f (n + 1) q
def fibOrderI (xs : List Sec) : Option Int := (fibMatI xs).map fun m => ordL m 24 1 m
theorem ordL_found {m : Mt} {P : CM} {d : Int} (hm : RC m P d) : ∀ (f : Nat) (j : Nat) (p : Mt) (k : Int), RC p (powC P j) (d ^ j) → ordL m f j p = k → k ≠ 0 → ∃ (i : Nat) (q : Mt), k = i ∧ i < j + f ∧ RC q (powC P i) (d ^ i) ∧ oneLike q = true
  | 0, j, p, k, _, h, hk => absurd h.symm hk
  | f + 1, j, p, k, hp, h, hk => by
    rw [ordL] at h
    split at h
    · rename_i ho
      exact ⟨j, p, h.symm, by omega, hp, ho⟩
    · cases hq : mtimesI m p with
      | none => rw [hq] at h; exact absurd h.symm hk
      | some q =>
        rw [hq] at h
        have hr := rc_times hm hp hq
        have e : d * d ^ j = d ^ (j + 1) := by rw [Int.pow_succ, Int.mul_comm]
        rw [e] at hr
        obtain ⟨i, q', e1, e2, e3, e4⟩ := ordL_found hm f (j + 1) q k hr h hk
        exact ⟨i, q', e1, by omega, e3, e4⟩
/-- Light sent through so many times. -/
def appN (m : Mt) (v : Jn) : Nat → Option Jn
  | 0 => some v
  | n + 1 => (appN m v n).bind fun w => mapplyI m w
theorem appN_rv {m : Mt} {P : CM} {v : Jn} {u : CV} {d e : Int} (hm : RC m P d) (hv : RV v u e) : ∀ (n : Nat) (w : Jn), appN m v n = some w → RV w (appC (powC P n) u) (d ^ n * e)
  | 0, w, h => by
    obtain rfl := Option.some.inj h
    have : appC (powC P 0) u = u := by simp [powC, appC, idC]
    rw [this, Int.pow_zero, Int.one_mul]
    exact hv
  | n + 1, w, h => by
    rw [appN] at h
    cases hx : appN m v n with
    | none => rw [hx] at h; cases h
    | some x =>
      rw [hx] at h
      have := rv_apply hm (appN_rv hm hv n x hx) h
      rw [← appC_mul, ← Int.mul_assoc, Int.mul_comm d (d ^ n), ← Int.pow_succ] at this
      exact this
/-- The light that is sent. -/
def v1i : Jn := ⟨⟨1, 0, 1⟩, ⟨0, 1, 1⟩⟩
theorem rv_1i : RV v1i ⟨1, 0, 0, 1⟩ 1 := ⟨⟨by decide, by decide, by decide, by decide⟩, ⟨by decide, by decide, by decide, by decide⟩⟩
theorem order_back {xs : List Sec} {m : Mt} {n : Nat} {w : Jn} {f g : Fr} (hm : fibMatI xs = some m) (hn : ordL m 24 1 m = (n : Int)) (h0 : n ≠ 0) (hw : appN m v1i n = some w) (h1 : timesI v1i.x w.y = some f) (h2 : timesI v1i.y w.x = some g) : jalikeI v1i w = true := by
  have hr := fib_rc hm
  generalize (prodL xs).1 = P at hr
  generalize (prodL xs).2 = d at hr
  have hr1 : RC m (powC P 1) (d ^ 1) := by
    rw [show powC P 1 = mulC P idC from rfl, mulC_id, show d ^ 1 = d by rw [Int.pow_succ, Int.pow_zero, Int.one_mul]]
    exact hr
  obtain ⟨i, q, e1, -, hq, ho⟩ := ordL_found hr 24 1 m n hr1 hn (by omega)
  obtain rfl : n = i := by omega
  have hwv := appN_rv hr rv_1i n w hw
  simp only [oneLike, Bool.and_eq_true, Bool.not_eq_true'] at ho
  obtain ⟨⟨⟨ob, oc⟩, oad⟩, oa⟩ := ho
  obtain ⟨b0, b1⟩ := (rep_zero_iff hq.b).1 ob
  obtain ⟨c0, c1⟩ := (rep_zero_iff hq.c).1 oc
  have had := hq.d
  rw [← eq_of_beq oad] at had
  obtain ⟨a0, a1⟩ := rep_inj hq.a had
  have hnz : ¬ ((powC P n).x0 = 0 ∧ (powC P n).y0 = 0) := by
    rw [← rep_zero_iff hq.a, oa]
    simp
  generalize powC P n = Q at *
  have hW : RV w ⟨Q.x0, Q.y0, -Q.y0, Q.x0⟩ (d ^ n * 1) := by
    have e : appC Q ⟨1, 0, 0, 1⟩ = ⟨Q.x0, Q.y0, -Q.y0, Q.x0⟩ := by
      simp only [appC, b0, b1, c0, c1, ← a0, ← a1, CV.mk.injEq]
      omega
    rw [e] at hwv
    exact hwv
  have hf := val_times rv_1i.x hW.y h1
  have hg := val_times rv_1i.y hW.x h2
  have hfg : f = g := by
    refine rep_uniq hf ?_
    simp only [Int.one_mul, Int.zero_mul, Int.zero_add, Int.add_zero, Int.sub_zero, Int.zero_sub] at hf hg ⊢
    exact hg
  have hdk : jdark w = false := by
    rw [Bool.eq_false_iff]
    intro h
    exact hnz ((rv_dark hW).1 h).1
  simp only [jalikeI, rv_1i.valid, hW.valid, h1, h2, hfg, hdk]
  simp
  decide
theorem ordL_bd (m : Mt) : ∀ (f : Nat) (j : Int) (p : Mt), 1 ≤ j → 0 ≤ ordL m f j p ∧ ordL m f j p ≤ j + f - 1
  | 0, j, p, h => by rw [ordL]; omega
  | f + 1, j, p, h => by
    rw [ordL]
    split
    · omega
    · split
      · omega
      · rename_i q _
        have := ordL_bd m f (j + 1) q (by omega)
        omega
end Go.Proofs.YtmaifiakjlbooaaDoor
