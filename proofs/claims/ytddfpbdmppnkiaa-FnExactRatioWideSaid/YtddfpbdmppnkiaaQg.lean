/-
  Quotients of wide complex numbers, told but for the bits of NaNs.
-/
import Derived.Test.YtddfpbdmppnkiaaQe
namespace Go.Proofs.Ytddfpbdmppnkiaa
set_option linter.unusedSimpArgs false
set_option linter.unusedVariables false
open Ieee
/-- A word that is told (no NaN), or only told to be a NaN. -/
def Rep64 (x : Nat) (X : Option Nat) : Prop := (∃ y, X = some y ∧ x = y ∧ double.order y y = some .eq) ∨ (X = none ∧ (double.read x).isNaN = true)
theorem Rep64.of {x : Nat} (h : double.order x x = some .eq) : Rep64 x (some x) := .inl ⟨x, rfl, rfl, h⟩
theorem order_notNaN {x : Nat} (h : double.order x x = some .eq) : (double.read x).isNaN = false := by
  unfold Format.order Datum.order at h
  cases hx : double.read x with
  | nan s t => rw [hx] at h; cases h
  | number s m p => rfl
  | infinity s => rfl
theorem Rep64.isNaN {x : Nat} {X : Option Nat} (h : Rep64 x X) : Op.Complex.isNaN x = X.isNone := by
  rcases h with ⟨y, rfl, rfl, h⟩ | ⟨rfl, h⟩
  · exact order_notNaN h
  · exact h
def aop (op : BinOp) : Option Nat → Option Nat → Option Nat
  | some x, some y => floatBits op .f64 x y
  | _, _ => none
/-- The four operations. -/
def Four (op : BinOp) : Prop := op = .add ∨ op = .sub ∨ op = .mul ∨ op = .quo
theorem map_ok {d : Option Datum} {r : Nat} (hd : ∀ x, d = some x → x.isNaN = false) (h : d.map double.write = some r) : double.order r r = some .eq := by
  cases d with
  | none => cases h
  | some d =>
    cases h
    obtain ⟨u, R, hR, e⟩ := write_word double d (hd d rfl)
    rw [e]
    exact order_word double double_inf u hR
theorem sum_ok (a b : Datum) : ∀ x, a.sum b = some x → x.isNaN = false := by
  intro x h
  unfold Datum.sum at h
  split at h <;> first | (cases h; done) | (cases h; rfl) | (split at h <;> first | (cases h; done) | (cases h; rfl))
theorem product_ok (a b : Datum) : ∀ x, a.product b = some x → x.isNaN = false := by
  intro x h
  unfold Datum.product at h
  split at h <;> first | (cases h; done) | (cases h; rfl) | (split at h <;> first | (cases h; done) | (cases h; rfl))
theorem quotient_ok (n : Nat) (a b : Datum) : ∀ x, a.quotient n b = some x → x.isNaN = false := by
  intro x h
  unfold Datum.quotient at h
  split at h
  · cases h
  · cases h
  · cases h
  · cases h; rfl
  · cases h; rfl
  · split at h
    · split at h
      · cases h
      · cases h; rfl
    · cases h; rfl
theorem fb_ok {op : BinOp} {x y r : Nat} (h : floatBits op .f64 x y = some r) : double.order r r = some .eq := by
  unfold floatBits at h
  split at h
  · exact map_ok (sum_ok _ _) h
  · exact map_ok (sum_ok _ _) h
  · exact map_ok (product_ok _ _) h
  · exact map_ok (quotient_ok _ _ _) h
  · cases h
theorem nan_none (d : Datum) (h : d.isNaN = true) : ∀ e : Datum, d.sum e = none ∧ e.sum d = none ∧ d.sum e.opposite = none ∧ e.sum d.opposite = none ∧ d.product e = none ∧ e.product d = none ∧ (∀ n, d.quotient n e = none) ∧ ∀ n, e.quotient n d = none := by
  intro e
  cases d with
  | nan s t => cases e <;> exact ⟨rfl, rfl, rfl, rfl, rfl, rfl, fun _ => rfl, fun _ => rfl⟩
  | number s m p => cases h
  | infinity s => cases h
theorem fb_nan {op : BinOp} {x y : Nat} (h : (double.read x).isNaN = true ∨ (double.read y).isNaN = true) : floatBits op .f64 x y = none := by
  have key : ∀ o : Option Datum, o = none → o.map double.write = none := fun o e => by rw [e]; rfl
  unfold floatBits
  rcases h with h | h
  · have hn := nan_none _ h (double.read y)
    split
    · exact key _ hn.1
    · exact key _ hn.2.2.1
    · exact key _ hn.2.2.2.2.1
    · exact key _ (hn.2.2.2.2.2.2.1 _)
    · rfl
  · have hn := nan_none _ h (double.read x)
    split
    · exact key _ hn.2.1
    · exact key _ hn.2.2.2.1
    · exact key _ hn.2.2.2.2.2.1
    · exact key _ (hn.2.2.2.2.2.2.2 _)
    · rfl
theorem cut_nan (x y t : Nat) : (double.read (Question.cut (.nanBits .f64 x y) t)).isNaN = true := by
  have e1 : double.signWeight = 9223372036854775808 := by decide +kernel
  have e2 : double.binade = 4503599627370496 := by decide +kernel
  have e3 : double.infRung = 9218868437227405312 := by decide +kernel
  have hc : Question.cut (.nanBits .f64 x y) t = (t % 2) * 9223372036854775808 + 9218868437227405312 + 1 + (t / 2) % 4503599627370495 := rfl
  obtain ⟨W, hW⟩ : ∃ W, W = Question.cut (.nanBits .f64 x y) t := ⟨_, rfl⟩
  rw [← hW] at hc ⊢
  have hr : W % 9223372036854775808 > 9218868437227405312 := by
    obtain ⟨q, hq⟩ : ∃ q, q = t % 2 := ⟨_, rfl⟩
    obtain ⟨r, hr⟩ : ∃ r, r = (t / 2) % 4503599627370495 := ⟨_, rfl⟩
    have hr2 : r < 4503599627370495 := by rw [hr]; exact Nat.mod_lt _ (by omega)
    have hq2 : q = 0 ∨ q = 1 := by omega
    rw [← hq, ← hr] at hc
    clear hq hr hW
    rcases hq2 with rfl | rfl <;> omega
  unfold Format.read
  simp only [e1, e2, e3]
  clear hc
  rw [if_neg (show ¬ W % 9223372036854775808 < 4503599627370496 by omega), if_neg (show ¬ W % 9223372036854775808 < 9218868437227405312 by omega), if_neg (show ¬ W % 9223372036854775808 = 9218868437227405312 by omega)]
  rfl
/-- An operation: what it gives, but for the bits of a NaN. -/
theorem arith_rep {P : Program} (w : World) {op : BinOp} (hop : Four op) {x y : Nat} {X Y : Option Nat} (hx : Rep64 x X) (hy : Rep64 y Y) :
    ∃ r n, (Op.Complex.arith op .f64 x y).run P w = .ok r (w.drewN n) ∧ Rep64 r (aop op X Y) := by
  have hnone : floatBits op .f64 x y = none → ∃ r n, (Op.Complex.arith op .f64 x y).run P w = .ok r (w.drewN n) ∧ Rep64 r none := by
    intro h
    refine ⟨Question.cut (.nanBits .f64 x y) (w.tape w.drawn (.nanBits .f64 x y)), 1, ?_, .inr ⟨rfl, cut_nan x y _⟩⟩
    unfold floatBits at h
    rcases hop with rfl | rfl | rfl | rfl <;> simp only at h <;> simp [Op.Complex.arith, Op.floatArith, h, run_choose_drew, Question.forced] <;> rfl
  rcases hx with ⟨x', rfl, rfl, hx⟩ | ⟨rfl, hx⟩
  · rcases hy with ⟨y', rfl, rfl, hy⟩ | ⟨rfl, hy⟩
    · cases h : floatBits op .f64 x y with
      | none =>
        obtain ⟨r, n, h1, h2⟩ := hnone h
        exact ⟨r, n, h1, by show Rep64 r (floatBits op .f64 x y); rw [h]; exact h2⟩
      | some r => exact ⟨r, 0, run_carith w h, by show Rep64 r (floatBits op .f64 x y); rw [h]; exact .of (fb_ok h)⟩
    · obtain ⟨r, n, h1, h2⟩ := hnone (fb_nan (.inr hy))
      exact ⟨r, n, h1, h2⟩
  · obtain ⟨r, n, h1, h2⟩ := hnone (fb_nan (.inl hx))
    exact ⟨r, n, h1, by cases Y <;> exact h2⟩
/-- The quotient's main road. -/
def qMain (a b c d : Nat) : Option Nat × Option Nat :=
  if absGe c d then
    let ratio := aop .quo (some d) (some c)
    let denom := aop .add (some c) (aop .mul ratio (some d))
    (aop .quo (aop .add (some a) (aop .mul (some b) ratio)) denom, aop .quo (aop .sub (some b) (aop .mul (some a) ratio)) denom)
  else
    let ratio := aop .quo (some c) (some d)
    let denom := aop .add (some d) (aop .mul ratio (some c))
    (aop .quo (aop .add (aop .mul (some a) ratio) (some b)) denom, aop .quo (aop .sub (aop .mul (some b) ratio) (some a)) denom)
theorem qMain_t {a b c d : Nat} (h : absGe c d = true) : qMain a b c d = (aop .quo (aop .add (some a) (aop .mul (some b) (aop .quo (some d) (some c)))) (aop .add (some c) (aop .mul (aop .quo (some d) (some c)) (some d))), aop .quo (aop .sub (some b) (aop .mul (some a) (aop .quo (some d) (some c)))) (aop .add (some c) (aop .mul (aop .quo (some d) (some c)) (some d)))) := if_pos h
theorem qMain_f {a b c d : Nat} (h : absGe c d = false) : qMain a b c d = (aop .quo (aop .add (aop .mul (some a) (aop .quo (some c) (some d))) (some b)) (aop .add (some d) (aop .mul (aop .quo (some c) (some d)) (some c))), aop .quo (aop .sub (aop .mul (some b) (aop .quo (some c) (some d))) (some a)) (aop .add (some d) (aop .mul (aop .quo (some c) (some d)) (some c)))) := if_neg (by rw [h]; exact Bool.false_ne_true)
def isZ (x : Nat) : Bool := FloatKind.f64.format.order x 0 == some .eq
/-- The quotient of finite numbers. -/
def qO (a b c d : Nat) : Option Nat × Option Nat :=
  if (qMain a b c d).1.isNone && (qMain a b c d).2.isNone then
    if isZ c && isZ d then (aop .mul (some (Op.Complex.copysign Op.Complex.inf c)) (some a), aop .mul (some (Op.Complex.copysign Op.Complex.inf c)) (some b)) else qMain a b c d
  else qMain a b c d
theorem run_eql0 {P : Program} (w : World) (x : Nat) : (Op.Complex.cmp .eql .f64 x 0).run P w = .ok (isZ x) w := by simp [Op.Complex.cmp, Op.floatCmp, asBool, isZ]
theorem lo_fin {x : Nat} {K : Int} (h : LoW double x K) : Op.Complex.isNaN x = false ∧ Op.Complex.isInf x = false := by
  obtain ⟨s, m, p, e, -⟩ := h
  unfold Op.Complex.isNaN Op.Complex.isInf
  rw [show FloatKind.f64.decode x = .number s m p from e]
  exact ⟨rfl, rfl⟩
theorem copysign_ok (c : Nat) (hc : c < 2 ^ 64) : double.order (Op.Complex.copysign Op.Complex.inf c) (Op.Complex.copysign Op.Complex.inf c) = some .eq := by
  have h : c / 2 ^ 63 = 0 ∨ c / 2 ^ 63 = 1 := by omega
  unfold Op.Complex.copysign
  rcases h with h | h <;> rw [h] <;> decide +kernel
theorem q_rep {P : Program} (w : World) {a b c d : Nat} {K : Int} (la : LoW double a K) (lb : LoW double b K) (lc : LoW double c K) (ld : LoW double d K) (hcc : c < 2 ^ 64) :
    ∃ e f n, (Op.Complex.quotient a b c d).run P w = .ok (e, f) (w.drewN n) ∧ Rep64 e (qO a b c d).1 ∧ Rep64 f (qO a b c d).2 := by
  have ha := Rep64.of (order_self la)
  have hb := Rep64.of (order_self lb)
  have hc := Rep64.of (order_self lc)
  have hd := Rep64.of (order_self ld)
  have hi := Rep64.of (copysign_ok c hcc)
  obtain ⟨ci, hci⟩ : ∃ ci, ci = Op.Complex.copysign Op.Complex.inf c := ⟨_, rfl⟩
  rw [← hci] at hi
  obtain ⟨a1, a2⟩ := lo_fin la
  obtain ⟨b1, b2⟩ := lo_fin lb
  obtain ⟨c1, c2⟩ := lo_fin lc
  obtain ⟨d1, d2⟩ := lo_fin ld
  cases hge : absGe c d
  · have hq : absGe c d = false := hge
    obtain ⟨ratio, m0, e0, r0⟩ := arith_rep (P := P) w (.inr (.inr (.inr rfl))) hc hd
    obtain ⟨rd, m1, e1, r1⟩ := arith_rep (P := P) (World.drewN w m0) (.inr (.inr (.inl rfl))) r0 hc
    obtain ⟨denom, m2, e2, r2⟩ := arith_rep (P := P) (World.drewN (World.drewN w m0) m1) (.inl rfl) hd r1
    obtain ⟨br, m3, e3, r3⟩ := arith_rep (P := P) (World.drewN (World.drewN (World.drewN w m0) m1) m2) (.inr (.inr (.inl rfl))) ha r0
    obtain ⟨t1, m4, e4, r4⟩ := arith_rep (P := P) (World.drewN (World.drewN (World.drewN (World.drewN w m0) m1) m2) m3) (.inl rfl) r3 hb
    obtain ⟨e, m5, e5, r5⟩ := arith_rep (P := P) (World.drewN (World.drewN (World.drewN (World.drewN (World.drewN w m0) m1) m2) m3) m4) (.inr (.inr (.inr rfl))) r4 r2
    obtain ⟨ar, m6, e6, r6⟩ := arith_rep (P := P) (World.drewN (World.drewN (World.drewN (World.drewN (World.drewN (World.drewN w m0) m1) m2) m3) m4) m5) (.inr (.inr (.inl rfl))) hb r0
    obtain ⟨t2, m7, e7, r7⟩ := arith_rep (P := P) (World.drewN (World.drewN (World.drewN (World.drewN (World.drewN (World.drewN (World.drewN w m0) m1) m2) m3) m4) m5) m6) (.inr (.inl rfl)) r6 ha
    obtain ⟨f, m8, e8, r8⟩ := arith_rep (P := P) (World.drewN (World.drewN (World.drewN (World.drewN (World.drewN (World.drewN (World.drewN (World.drewN w m0) m1) m2) m3) m4) m5) m6) m7) (.inr (.inr (.inr rfl))) r7 r2
    have hm : Rep64 e (qMain a b c d).1 ∧ Rep64 f (qMain a b c d).2 := by
      rw [qMain_f hq]
      exact ⟨r5, r8⟩
    have hne := hm.1.isNaN
    have hnf := hm.2.isNaN
    cases hz : (Op.Complex.isNaN e && Op.Complex.isNaN f)
    · refine ⟨e, f, m0 + m1 + m2 + m3 + m4 + m5 + m6 + m7 + m8, ?_, ?_⟩
      · unfold Op.Complex.quotient
        simp only [Sem.run_bind, run_ccmp_geq, hge, Result.andThen_ok, Bool.false_eq_true, if_false, if_true, Op.Complex.mul, Op.Complex.sub, Op.Complex.add, Op.Complex.quo, e0, e1, e2, e3, e4, e5, e6, e7, e8, Sem.run_pure, run_eql0, hz, Bool.not_false, ↓reduceIte]
        simp only [World.drewN_drewN, Nat.add_assoc]
      · have : qO a b c d = qMain a b c d := by
          unfold qO
          rw [← hne, ← hnf, hz]
          exact if_neg Bool.false_ne_true
        rw [this]
        exact hm
    · cases hzz : (isZ c && isZ d)
      · refine ⟨e, f, m0 + m1 + m2 + m3 + m4 + m5 + m6 + m7 + m8, ?_, ?_⟩
        · unfold Op.Complex.quotient
          simp only [Sem.run_bind, run_ccmp_geq, hge, Result.andThen_ok, Bool.false_eq_true, if_false, if_true, Op.Complex.mul, Op.Complex.sub, Op.Complex.add, Op.Complex.quo, e0, e1, e2, e3, e4, e5, e6, e7, e8, Sem.run_pure, run_eql0, hz, hzz, a1, a2, b1, b2, c1, c2, d1, d2, Bool.not_false, Bool.not_true, Bool.false_and, Bool.true_and, Bool.and_false, Bool.or_self, Bool.false_or, ↓reduceIte]
          simp only [World.drewN_drewN, Nat.add_assoc]
        · have : qO a b c d = qMain a b c d := by
            unfold qO
            rw [← hne, ← hnf, hz, hzz]
            exact (if_pos rfl).trans (if_neg Bool.false_ne_true)
          rw [this]
          exact hm
      · obtain ⟨x, n1, x1, s1⟩ := arith_rep (P := P) (World.drewN (World.drewN (World.drewN (World.drewN (World.drewN (World.drewN (World.drewN (World.drewN (World.drewN w m0) m1) m2) m3) m4) m5) m6) m7) m8) (.inr (.inr (.inl rfl))) hi ha
        obtain ⟨y, n2, y1, s2⟩ := arith_rep (P := P) (World.drewN (World.drewN (World.drewN (World.drewN (World.drewN (World.drewN (World.drewN (World.drewN (World.drewN (World.drewN w m0) m1) m2) m3) m4) m5) m6) m7) m8) n1) (.inr (.inr (.inl rfl))) hi hb
        refine ⟨x, y, m0 + m1 + m2 + m3 + m4 + m5 + m6 + m7 + m8 + n1 + n2, ?_, ?_⟩
        · unfold Op.Complex.quotient
          rw [← hci]
          simp only [Sem.run_bind, run_ccmp_geq, hge, Result.andThen_ok, Bool.false_eq_true, if_false, if_true, Op.Complex.mul, Op.Complex.sub, Op.Complex.add, Op.Complex.quo, e0, e1, e2, e3, e4, e5, e6, e7, e8, Sem.run_pure, run_eql0, hz, hzz, a1, a2, b1, b2, c1, c2, d1, d2, x1, y1, Bool.not_false, Bool.not_true, Bool.false_and, Bool.true_and, Bool.and_false, Bool.or_self, Bool.false_or, Bool.and_true, ↓reduceIte]
          simp only [World.drewN_drewN, Nat.add_assoc]
        · have : qO a b c d = (aop .mul (some ci) (some a), aop .mul (some ci) (some b)) := by
            unfold qO
            rw [← hci, ← hne, ← hnf, hz, hzz]
            exact (if_pos rfl).trans (if_pos rfl)
          rw [this]
          exact ⟨s1, s2⟩
  · have hq : absGe c d = true := hge
    obtain ⟨ratio, m0, e0, r0⟩ := arith_rep (P := P) w (.inr (.inr (.inr rfl))) hd hc
    obtain ⟨rd, m1, e1, r1⟩ := arith_rep (P := P) (World.drewN w m0) (.inr (.inr (.inl rfl))) r0 hd
    obtain ⟨denom, m2, e2, r2⟩ := arith_rep (P := P) (World.drewN (World.drewN w m0) m1) (.inl rfl) hc r1
    obtain ⟨br, m3, e3, r3⟩ := arith_rep (P := P) (World.drewN (World.drewN (World.drewN w m0) m1) m2) (.inr (.inr (.inl rfl))) hb r0
    obtain ⟨t1, m4, e4, r4⟩ := arith_rep (P := P) (World.drewN (World.drewN (World.drewN (World.drewN w m0) m1) m2) m3) (.inl rfl) ha r3
    obtain ⟨e, m5, e5, r5⟩ := arith_rep (P := P) (World.drewN (World.drewN (World.drewN (World.drewN (World.drewN w m0) m1) m2) m3) m4) (.inr (.inr (.inr rfl))) r4 r2
    obtain ⟨ar, m6, e6, r6⟩ := arith_rep (P := P) (World.drewN (World.drewN (World.drewN (World.drewN (World.drewN (World.drewN w m0) m1) m2) m3) m4) m5) (.inr (.inr (.inl rfl))) ha r0
    obtain ⟨t2, m7, e7, r7⟩ := arith_rep (P := P) (World.drewN (World.drewN (World.drewN (World.drewN (World.drewN (World.drewN (World.drewN w m0) m1) m2) m3) m4) m5) m6) (.inr (.inl rfl)) hb r6
    obtain ⟨f, m8, e8, r8⟩ := arith_rep (P := P) (World.drewN (World.drewN (World.drewN (World.drewN (World.drewN (World.drewN (World.drewN (World.drewN w m0) m1) m2) m3) m4) m5) m6) m7) (.inr (.inr (.inr rfl))) r7 r2
    have hm : Rep64 e (qMain a b c d).1 ∧ Rep64 f (qMain a b c d).2 := by
      rw [qMain_t hq]
      exact ⟨r5, r8⟩
    have hne := hm.1.isNaN
    have hnf := hm.2.isNaN
    cases hz : (Op.Complex.isNaN e && Op.Complex.isNaN f)
    · refine ⟨e, f, m0 + m1 + m2 + m3 + m4 + m5 + m6 + m7 + m8, ?_, ?_⟩
      · unfold Op.Complex.quotient
        simp only [Sem.run_bind, run_ccmp_geq, hge, Result.andThen_ok, Bool.false_eq_true, if_false, if_true, Op.Complex.mul, Op.Complex.sub, Op.Complex.add, Op.Complex.quo, e0, e1, e2, e3, e4, e5, e6, e7, e8, Sem.run_pure, run_eql0, hz, Bool.not_false, ↓reduceIte]
        simp only [World.drewN_drewN, Nat.add_assoc]
      · have : qO a b c d = qMain a b c d := by
          unfold qO
          rw [← hne, ← hnf, hz]
          exact if_neg Bool.false_ne_true
        rw [this]
        exact hm
    · cases hzz : (isZ c && isZ d)
      · refine ⟨e, f, m0 + m1 + m2 + m3 + m4 + m5 + m6 + m7 + m8, ?_, ?_⟩
        · unfold Op.Complex.quotient
          simp only [Sem.run_bind, run_ccmp_geq, hge, Result.andThen_ok, Bool.false_eq_true, if_false, if_true, Op.Complex.mul, Op.Complex.sub, Op.Complex.add, Op.Complex.quo, e0, e1, e2, e3, e4, e5, e6, e7, e8, Sem.run_pure, run_eql0, hz, hzz, a1, a2, b1, b2, c1, c2, d1, d2, Bool.not_false, Bool.not_true, Bool.false_and, Bool.true_and, Bool.and_false, Bool.or_self, Bool.false_or, ↓reduceIte]
          simp only [World.drewN_drewN, Nat.add_assoc]
        · have : qO a b c d = qMain a b c d := by
            unfold qO
            rw [← hne, ← hnf, hz, hzz]
            exact (if_pos rfl).trans (if_neg Bool.false_ne_true)
          rw [this]
          exact hm
      · obtain ⟨x, n1, x1, s1⟩ := arith_rep (P := P) (World.drewN (World.drewN (World.drewN (World.drewN (World.drewN (World.drewN (World.drewN (World.drewN (World.drewN w m0) m1) m2) m3) m4) m5) m6) m7) m8) (.inr (.inr (.inl rfl))) hi ha
        obtain ⟨y, n2, y1, s2⟩ := arith_rep (P := P) (World.drewN (World.drewN (World.drewN (World.drewN (World.drewN (World.drewN (World.drewN (World.drewN (World.drewN (World.drewN w m0) m1) m2) m3) m4) m5) m6) m7) m8) n1) (.inr (.inr (.inl rfl))) hi hb
        refine ⟨x, y, m0 + m1 + m2 + m3 + m4 + m5 + m6 + m7 + m8 + n1 + n2, ?_, ?_⟩
        · unfold Op.Complex.quotient
          rw [← hci]
          simp only [Sem.run_bind, run_ccmp_geq, hge, Result.andThen_ok, Bool.false_eq_true, if_false, if_true, Op.Complex.mul, Op.Complex.sub, Op.Complex.add, Op.Complex.quo, e0, e1, e2, e3, e4, e5, e6, e7, e8, Sem.run_pure, run_eql0, hz, hzz, a1, a2, b1, b2, c1, c2, d1, d2, x1, y1, Bool.not_false, Bool.not_true, Bool.false_and, Bool.true_and, Bool.and_false, Bool.or_self, Bool.false_or, Bool.and_true, ↓reduceIte]
          simp only [World.drewN_drewN, Nat.add_assoc]
        · have : qO a b c d = (aop .mul (some ci) (some a), aop .mul (some ci) (some b)) := by
            unfold qO
            rw [← hci, ← hne, ← hnf, hz, hzz]
            exact (if_pos rfl).trans (if_pos rfl)
          rw [this]
          exact ⟨s1, s2⟩

/-- One over what is no NaN is told. -/
theorem quo_nn {x : Nat} (h : double.order x x = some .eq) : ∃ r, floatBits .quo .f64 4607182418800017408 x = some r := by
  have hx := order_notNaN h
  have e1 : double.read 4607182418800017408 = .number false 4503599627370496 (-52) := by decide +kernel
  show ∃ r, double.div 4607182418800017408 x = some r
  unfold Format.div
  rw [e1]
  cases he : double.read x with
  | nan s t => rw [he] at hx; cases hx
  | infinity s => exact ⟨_, rfl⟩
  | number s m p =>
    unfold Datum.quotient
    simp only
    split <;> exact ⟨_, rfl⟩
end Go.Proofs.Ytddfpbdmppnkiaa
