/-
  Readings of stations and tables at work on four numbers, in plain Lean.
-/
import Derived.Test.YtalcjmefmffcnaaDoorTw
import Derived.Test.YtalcjmefmffcnaaDoorPh
namespace Go.Proofs.YtalcjmefmffcnaaDoor
set_option linter.unusedSimpArgs false
set_option linter.unusedVariables false
open Go.RowKit
def mrow (m : Mt) (k : Nat) : Fr := (row4 m).getD k zK
def lrow (r : List Fr) (k : Nat) : Fr := r.getD k zK
/-- A row times four numbers: the value and whether something was none. -/
def rdI (r : List Fr) (m : Mt) : Fr × Bool := dotI (lrow r) (mrow m) 4
def rdS (r : List Fr) (m : Mt) : Fr × Bool := dotS (lrow r) (mrow m) 4
def rdG (m : Mt) (s : Sta) : Fr := (rdI (rowG s) m).1
def rdOk (m : Mt) (s : Sta) : Bool := rowOk s && !(rdI (rowG s) m).2
/-- What stations read. -/
def readM (xs : List Sta) (m : Mt) : Option (List Fr) := if decide (xs.length ≤ 16) && (mreal m && xs.all (rdOk m)) then some (xs.map (rdG m)) else none
theorem mrow_real {m : Mt} (h : mreal m = true) : ∀ k, k < 4 → realOk (mrow m k) = true := by
  simp only [mreal, Bool.and_eq_true] at h
  obtain ⟨h0, h1, h2, h3⟩ := h
  intro k hk
  match k, hk with
  | 0, _ => exact h0
  | 1, _ => exact h1
  | 2, _ => exact h2
  | 3, _ => exact h3
theorem lrow_real {s : Sta} (h : rowOk s = true) : ∀ k, k < 4 → realOk (lrow (rowG s) k) = true := by
  obtain ⟨a, b, c, d, e, h0, h1, h2, h3⟩ := row_open h
  intro k hk
  rw [e]
  match k, hk with
  | 0, _ => exact h0
  | 1, _ => exact h1
  | 2, _ => exact h2
  | 3, _ => exact h3
theorem rd_eq {r : List Fr} {m : Mt} (hr : ∀ k, k < 4 → realOk (lrow r k) = true) (hm : mreal m = true) : (rdI r m).2 = (rdS r m).2 ∧ ((rdI r m).2 = false → (rdI r m).1 = (rdS r m).1 ∧ realOk (rdI r m).1 = true) := by
  obtain ⟨h1, h2⟩ := dot_eq (r := lrow r) (c := mrow m) 4 hr (mrow_real hm)
  exact ⟨h1, fun h => h2 h (by omega)⟩
/-- A reading as a rational number. -/
theorem rd_q {r : List Fr} {m : Mt} (hr : ∀ k, k < 4 → realOk (lrow r k) = true) (hm : mreal m = true) (h : (rdI r m).2 = false) :
    qr (rdI r m).1 = qr (lrow r 0) * qr m.a + qr (lrow r 1) * qr m.b + qr (lrow r 2) * qr m.c + qr (lrow r 3) * qr m.d ∧ realOk (rdI r m).1 = true := by
  obtain ⟨h1, h2⟩ := dot_q (r := lrow r) (c := mrow m) 4 hr (mrow_real hm) h (by omega)
  refine ⟨?_, h2⟩
  unfold rdI
  rw [h1]
  show 0 + qr (lrow r 0) * qr m.a + qr (lrow r 1) * qr m.b + qr (lrow r 2) * qr m.c + qr (lrow r 3) * qr m.d = _
  rw [Rat.zero_add]
theorem read_some {xs : List Sta} {m : Mt} {rs : List Fr} (h : readM xs m = some rs) : xs.length ≤ 16 ∧ mreal m = true ∧ (∀ s ∈ xs, rdOk m s = true) ∧ rs = xs.map (rdG m) := by
  unfold readM at h
  split at h
  · rename_i hc
    simp only [Bool.and_eq_true, decide_eq_true_eq] at hc
    exact ⟨hc.1, hc.2.1, List.all_eq_true.1 hc.2.2, (Option.some.inj h).symm⟩
  · cases h
/-- A table at work on four numbers. -/
def taI (t : List Fr) (m : Mt) : Nat → List Fr × Bool
  | 0 => ([], false)
  | n + 1 => ((taI t m n).1 ++ [(dotI (trow t n) (mrow m) 4).1], (taI t m n).2 || (dotI (trow t n) (mrow m) 4).2)
def taS (t : List Fr) (m : Mt) : Nat → List Fr × Bool
  | 0 => ([], false)
  | n + 1 => ((taS t m n).1 ++ [(dotS (trow t n) (mrow m) 4).1], (taS t m n).2 || (dotS (trow t n) (mrow m) 4).2)
def lm4 (xs : List Fr) : Mt := ⟨xs.getD 0 zK, xs.getD 1 zK, xs.getD 2 zK, xs.getD 3 zK⟩
def tapI (t : List Fr) (m : Mt) : Option Mt := if !(t.all realOk && mreal m) || (taI t m 4).2 then none else some (lm4 (taI t m 4).1)
def tapS (t : List Fr) (m : Mt) : Option Mt := if !(t.all realOk && mreal m) || (taS t m 4).2 then none else some (lm4 (taS t m 4).1)
theorem ta_len (t : List Fr) (m : Mt) : ∀ n, (taI t m n).1.length = n
  | 0 => rfl
  | n + 1 => by simp [taI, ta_len t m n]
theorem taS_len (t : List Fr) (m : Mt) : ∀ n, (taS t m n).1.length = n
  | 0 => rfl
  | n + 1 => by simp [taS, taS_len t m n]
theorem ta_eq {t : List Fr} {m : Mt} (ht : t.length = 16) (hr : t.all realOk = true) (hm : mreal m = true) :
    ∀ n, n ≤ 4 → (taI t m n).2 = (taS t m n).2 ∧ ((taI t m n).2 = false → (taI t m n).1 = (taS t m n).1)
  | 0, _ => ⟨rfl, fun _ => rfl⟩
  | n + 1, hn => by
    obtain ⟨h1, h2⟩ := ta_eq ht hr hm n (by omega)
    obtain ⟨d1, d2⟩ := dot_eq (r := trow t n) (c := mrow m) 4 (fun k hk => getD_real hr (by omega)) (mrow_real hm)
    unfold taI taS
    simp only [← h1, ← d1]
    refine ⟨trivial, fun h => ?_⟩
    simp only [Bool.or_eq_false_iff] at h
    rw [h2 h.1, (d2 h.2 (by omega)).1]
theorem tap_eq {t : List Fr} {m : Mt} (ht : t.length = 16) : tapI t m = tapS t m := by
  unfold tapI tapS
  cases hv : t.all realOk && mreal m
  · simp
  simp only [Bool.and_eq_true] at hv
  obtain ⟨h1, h2⟩ := ta_eq ht hv.1 hv.2 4 (by omega)
  rw [← h1]
  cases h : (taI t m 4).2
  · simp [h2 h]
  · simp
theorem ttS_mono {a b : List Fr} {n : Nat} (h : (ttS a b n).2 = true) : ∀ k, n ≤ k → (ttS a b k).2 = true
  | 0, hk => by obtain rfl : n = 0 := by omega
                exact h
  | k + 1, hk => by
    rcases Nat.lt_or_ge n (k + 1) with h1 | h1
    · simp only [ttS, ttS_mono h k (by omega), Bool.true_or]
    · obtain rfl : n = k + 1 := by omega
      exact h
/-- The numbers that a table makes, as rational ones. -/
theorem tap_q {t : List Fr} {m x : Mt} (ht : t.length = 16) (h : tapI t m = some x) : t.all realOk = true ∧ mreal m = true ∧ mreal x = true ∧
    ∀ i, i < 4 → qr (mrow x i) = qr (t.getD (4 * i) zK) * qr m.a + qr (t.getD (4 * i + 1) zK) * qr m.b + qr (t.getD (4 * i + 2) zK) * qr m.c + qr (t.getD (4 * i + 3) zK) * qr m.d := by
  unfold tapI at h
  split at h
  · cases h
  rename_i hc
  obtain rfl := Option.some.inj h
  simp only [Bool.or_eq_true, Bool.not_eq_true', not_or, Bool.not_eq_false, Bool.not_eq_true, Bool.and_eq_true] at hc
  obtain ⟨⟨h1, h2⟩, h3⟩ := hc
  have key : ∀ i, i < 4 → (dotI (trow t i) (mrow m) 4).2 = false := by
    simp only [taI, Bool.or_eq_false_iff, Bool.false_or] at h3
    intro i hi
    match i, hi with
    | 0, _ => exact h3.1.1.1
    | 1, _ => exact h3.1.1.2
    | 2, _ => exact h3.1.2
    | 3, _ => exact h3.2
  have hrow : ∀ i, i < 4 → mrow (lm4 (taI t m 4).1) i = (dotI (trow t i) (mrow m) 4).1 := by
    intro i hi
    match i, hi with
    | 0, _ => rfl
    | 1, _ => rfl
    | 2, _ => rfl
    | 3, _ => rfl
  have hq : ∀ i, i < 4 → _ := fun i hi => dot_q (r := trow t i) (c := mrow m) 4 (fun k hk => getD_real h1 (by omega)) (mrow_real h2) (key i hi) (by omega)
  refine ⟨h1, h2, ?_, fun i hi => ?_⟩
  · have r := fun i hi => (hq i hi).2
    have r0 := r 0 (by omega)
    have r1 := r 1 (by omega)
    have r2 := r 2 (by omega)
    have r3 := r 3 (by omega)
    rw [← hrow 0 (by omega)] at r0
    rw [← hrow 1 (by omega)] at r1
    rw [← hrow 2 (by omega)] at r2
    rw [← hrow 3 (by omega)] at r3
    simp only [mreal, Bool.and_eq_true]
    exact ⟨r0, r1, r2, r3⟩
  · rw [hrow i hi, (hq i hi).1]
    show 0 + qr (t.getD (4 * i + 0) zK) * qr m.a + qr (t.getD (4 * i + 1) zK) * qr m.b + qr (t.getD (4 * i + 2) zK) * qr m.c + qr (t.getD (4 * i + 3) zK) * qr m.d = _
    rw [Rat.zero_add, Nat.add_zero]
/-- Four numbers turned k times. -/
def tvI (t : List Fr) (m : Mt) : Nat → Option Mt
  | 0 => some m
  | k + 1 => (tvI t m k).bind (tapI t)
def trnI (r t : List Fr) (m : Mt) : Nat → Option (List Fr)
  | 0 => some []
  | k + 1 => (trnI r t m k).bind fun out => (tvI t m k).bind fun v => if (rdI r v).2 then none else some (out ++ [(rdI r v).1])
def backM (sp sq : Int) : Option Mt := if dirOk sp sq then madjI (rotM sp sq) else none
/-- What MeterTurn hands back. -/
def turnM (m : Mt) (from0 step : Sta) (n : Int) : Option (List Fr) :=
  if inB n 0 16 && mreal m then (rowI from0).bind fun r => (backM step.p step.q).bind fun b => (tabM b).bind fun t => trnI r t m n.toNat else none
theorem add_zeroR {x : Fr} (h : fvalid x = true) : addI x ⟨0, 0, 1⟩ = some x := by
  rw [addI, h, show fvalid ⟨0, 0, 1⟩ = true by decide]
  simpa using low_self h
theorem times_oneL {x : Fr} (h : fvalid x = true) : timesI ⟨1, 0, 1⟩ x = some x := by
  rw [timesI, h, show fvalid ⟨1, 0, 1⟩ = true by decide]
  simpa using low_self h
theorem low_zero {d : Int} (h : 1 ≤ d) : lowI 0 0 d = some ⟨0, 0, 1⟩ := by
  have e : gcd3 0 0 d = d := by unfold gcd3 gcdI absI; simp; omega
  unfold lowI
  simp only [e, Int.zero_tdiv, Int.ediv_self (show d ≠ 0 by omega)]
  rfl
theorem times_zeroL {x : Fr} (h : fvalid x = true) : timesI ⟨0, 0, 1⟩ x = some ⟨0, 0, 1⟩ := by
  have hb := fvalid_bd x h
  rw [timesI, h, show fvalid ⟨0, 0, 1⟩ = true by decide]
  simp only [Bool.and_self, if_true, Int.zero_mul, Int.one_mul, Int.sub_zero, Int.add_zero]
  exact low_zero (by omega)
def unitM : Mt := ⟨⟨1, 0, 1⟩, z1, z1, ⟨1, 0, 1⟩⟩
def o1F : Fr := ⟨1, 0, 1⟩
def unitT : List Fr := [o1F, z1, z1, z1, z1, o1F, z1, z1, z1, z1, o1F, z1, z1, z1, z1, o1F]
theorem unit_tab : tabM unitM = some unitT := by decide +kernel
theorem unit_back : backM 1 0 = some unitM := by decide +kernel
theorem dot_four (r c : Nat → Fr) (p0 p1 p2 p3 a1 a2 a3 : Fr) (h0 : timesI (r 0) (c 0) = some p0) (h1 : timesI (r 1) (c 1) = some p1) (h2 : timesI (r 2) (c 2) = some p2) (h3 : timesI (r 3) (c 3) = some p3)
    (k1 : addI p0 p1 = some a1) (k2 : addI a1 p2 = some a2) (k3 : addI a2 p3 = some a3) : dotI r c 4 = (a3, false) := by
  simp [dotI, vN, h0, h1, h2, h3, k1, k2, k3]
theorem unit_tap {m : Mt} (hm : mreal m = true) : tapI unitT m = some m := by
  have hv := fun k hk => (real_parts (mrow_real hm k hk)).1
  have v0 : fvalid m.a = true := hv 0 (by omega)
  have v1 : fvalid m.b = true := hv 1 (by omega)
  have v2 : fvalid m.c = true := hv 2 (by omega)
  have v3 : fvalid m.d = true := hv 3 (by omega)
  have vz : fvalid ⟨0, 0, 1⟩ = true := by decide
  have d0 : dotI (trow unitT 0) (mrow m) 4 = (m.a, false) := dot_four _ _ m.a ⟨0, 0, 1⟩ ⟨0, 0, 1⟩ ⟨0, 0, 1⟩ m.a m.a m.a (times_oneL v0) (times_zeroL v1) (times_zeroL v2) (times_zeroL v3) (add_zeroR v0) (add_zeroR v0) (add_zeroR v0)
  have d1 : dotI (trow unitT 1) (mrow m) 4 = (m.b, false) := dot_four _ _ ⟨0, 0, 1⟩ m.b ⟨0, 0, 1⟩ ⟨0, 0, 1⟩ m.b m.b m.b (times_zeroL v0) (times_oneL v1) (times_zeroL v2) (times_zeroL v3) (add_zeroK v1) (add_zeroR v1) (add_zeroR v1)
  have d2 : dotI (trow unitT 2) (mrow m) 4 = (m.c, false) := dot_four _ _ ⟨0, 0, 1⟩ ⟨0, 0, 1⟩ m.c ⟨0, 0, 1⟩ ⟨0, 0, 1⟩ m.c m.c (times_zeroL v0) (times_zeroL v1) (times_oneL v2) (times_zeroL v3) (add_zeroK vz) (add_zeroK v2) (add_zeroR v2)
  have d3 : dotI (trow unitT 3) (mrow m) 4 = (m.d, false) := dot_four _ _ ⟨0, 0, 1⟩ ⟨0, 0, 1⟩ ⟨0, 0, 1⟩ m.d ⟨0, 0, 1⟩ ⟨0, 0, 1⟩ m.d (times_zeroL v0) (times_zeroL v1) (times_zeroL v2) (times_oneL v3) (add_zeroK vz) (add_zeroK vz) (add_zeroK v3)
  have hu : unitT.all realOk = true := by decide
  unfold tapI
  rw [hu, hm]
  simp only [taI, d0, d1, d2, d3, Bool.and_self, Bool.not_true, Bool.or_self, Bool.false_eq_true, if_false]
  rfl
theorem unit_tv {m : Mt} (hm : mreal m = true) : ∀ k, tvI unitT m k = some m
  | 0 => rfl
  | k + 1 => by rw [tvI, unit_tv hm k, Option.bind_some, unit_tap hm]
theorem turn_first {r t out : List Fr} {m : Mt} : ∀ {n : Nat}, trnI r t m n = some out → out.length = n ∧ (1 ≤ n → (rdI r m).2 = false ∧ out[0]? = some (rdI r m).1)
  | 0, h => by obtain rfl := Option.some.inj h; exact ⟨rfl, fun h => absurd h (by omega)⟩
  | k + 1, h => by
    simp only [trnI] at h
    cases ho : trnI r t m k with
    | none => rw [ho] at h; cases h
    | some o =>
      rw [ho, Option.bind_some] at h
      cases hv : tvI t m k with
      | none => rw [hv] at h; cases h
      | some v =>
        rw [hv, Option.bind_some] at h
        split at h
        · cases h
        · rename_i hb
          obtain rfl := Option.some.inj h
          obtain ⟨l, f⟩ := turn_first ho
          refine ⟨by simp [l], fun _ => ?_⟩
          by_cases h0 : k = 0
          · subst h0
            obtain rfl := Option.some.inj hv
            obtain rfl : o = [] := by simpa using l
            exact ⟨by simpa using hb, rfl⟩
          · obtain ⟨f1, f2⟩ := f (by omega)
            exact ⟨f1, by rw [List.getElem?_append_left (by omega)]; exact f2⟩
theorem unit_turn {r : List Fr} {m : Mt} (hm : mreal m = true) (hb : (rdI r m).2 = false) : ∀ n, trnI r unitT m n = some (List.replicate n (rdI r m).1)
  | 0 => rfl
  | k + 1 => by
    rw [trnI, unit_turn hm hb k, Option.bind_some, unit_tv hm k, Option.bind_some, hb]
    simp [List.replicate_succ']
/-- What stays stays: turned by the direction 1, 0. -/
theorem turn_law {m : Mt} {fr st : Sta} {n : Int} {out : List Fr} (h : turnM m fr st n = some out) :
    out.length = n.toNat ∧ 0 ≤ n ∧ mreal m = true ∧ (1 ≤ n → rdOk m fr = true ∧ out[0]? = some (rdG m fr) ∧ turnM m fr ⟨1, 0⟩ n = some (List.replicate n.toNat (rdG m fr))) := by
  have h' := h
  unfold turnM at h
  split at h
  · rename_i hc
    simp only [Bool.and_eq_true, inB_iff] at hc
    cases hr : rowI fr with
    | none => rw [hr] at h; cases h
    | some r =>
    rw [hr, Option.bind_some] at h
    cases hbk : backM st.p st.q with
    | none => rw [hbk] at h; cases h
    | some b =>
    rw [hbk, Option.bind_some] at h
    cases ht : tabM b with
    | none => rw [ht] at h; cases h
    | some t =>
    rw [ht, Option.bind_some] at h
    obtain ⟨l, f⟩ := turn_first h
    refine ⟨l, hc.1.1, hc.2, fun hn => ?_⟩
    obtain ⟨f1, f2⟩ := f (by omega)
    have hG : rowG fr = r := by rw [rowG, hr]; rfl
    refine ⟨by simp [rdOk, rowOk, hr, hG, f1], by rw [rdG, hG]; exact f2, ?_⟩
    unfold turnM
    rw [if_pos (by simp [hc.2, inB, hc.1.1, hc.1.2]), hr, Option.bind_some, unit_back, Option.bind_some, unit_tab, Option.bind_some, unit_turn hc.2 f1, rdG, hG]
  · cases h
end Go.Proofs.YtalcjmefmffcnaaDoor
