/-
  Rows of four stations: determinants, solutions and readings, in plain Lean.
-/
import Derived.Test.YtodhbkinbcemnaaDoorPq
import Derived.Test.YtodhbkinbcemnaaDoorPv
import Derived.Test.YtodhbkinbcemnaaDoorPe
namespace Go.Proofs.YtodhbkinbcemnaaDoor
set_option linter.unusedSimpArgs false
set_option linter.unusedVariables false
open Go.RowKit
def rowG (s : Sta) : List Fr := (rowI s).getD [zK, zK, zK, zK]
def rowOk (s : Sta) : Bool := (rowI s).isSome
/-- The rows of four stations. -/
def rowsI (xs : List Sta) : Option (List (List Fr)) := if decide (xs.length = 4) && xs.all rowOk then some (xs.map rowG) else none
def detM (xs : List Sta) : Option Fr := (rowsI xs).bind fun rows => if (detI 3 rows).2 then none else some (detI 3 rows).1
def goodM (xs : List Sta) : Bool := ((detM xs).map fun f => !(f.re == 0)).getD false
def solM (xs : List Sta) (rs : List Fr) : Option (List Fr) := (rowsI xs).bind fun rows => solI rows rs
theorem row_open {s : Sta} (h : rowOk s = true) : ∃ a b c d : Fr, rowG s = [a, b, c, d] ∧ realOk a = true ∧ realOk b = true ∧ realOk c = true ∧ realOk d = true := by
  unfold rowOk at h
  obtain ⟨r, hr⟩ := Option.isSome_iff_exists.1 h
  obtain ⟨h1, h2⟩ := row_some hr
  match r, h1, hr, h2 with
  | [a, b, c, d], _, hr, h2 => exact ⟨a, b, c, d, by rw [rowG, hr]; rfl, h2 a (by simp), h2 b (by simp), h2 c (by simp), h2 d (by simp)⟩
theorem rowsI_open {xs : List Sta} {rows : List (List Fr)} (h : rowsI xs = some rows) : ∃ s0 s1 s2 s3, xs = [s0, s1, s2, s3] ∧ rows = [rowG s0, rowG s1, rowG s2, rowG s3] ∧ rowOk s0 = true ∧ rowOk s1 = true ∧ rowOk s2 = true ∧ rowOk s3 = true := by
  unfold rowsI at h
  split at h
  · rename_i hc
    obtain rfl := Option.some.inj h
    simp only [Bool.and_eq_true, decide_eq_true_eq] at hc
    match xs, hc with
    | [s0, s1, s2, s3], hc => exact ⟨s0, s1, s2, s3, rfl, rfl, by have := hc.2; simp only [List.all_cons, List.all_nil, Bool.and_true, Bool.and_eq_true] at this; exact ⟨this.1, this.2.1, this.2.2.1, this.2.2.2⟩⟩
  · cases h
theorem sq_made {a b c d e f g h i j k l m n o p : Fr} (hr : realOk a = true ∧ realOk b = true ∧ realOk c = true ∧ realOk d = true ∧ realOk e = true ∧ realOk f = true ∧ realOk g = true ∧ realOk h = true ∧ realOk i = true ∧ realOk j = true ∧ realOk k = true ∧ realOk l = true ∧ realOk m = true ∧ realOk n = true ∧ realOk o = true ∧ realOk p = true) : Sq 3 [[a, b, c, d], [e, f, g, h], [i, j, k, l], [m, n, o, p]] := by
  obtain ⟨h0, h1, h2, h3, h4, h5, h6, h7, h8, h9, h10, h11, h12, h13, h14, h15⟩ := hr
  refine ⟨rfl, fun r hm => ?_⟩
  simp only [List.mem_cons, List.not_mem_nil, or_false] at hm
  rcases hm with rfl | rfl | rfl | rfl <;> refine ⟨rfl, fun f hf => ?_⟩ <;> simp only [List.mem_cons, List.not_mem_nil, or_false] at hf <;> rcases hf with rfl | rfl | rfl | rfl <;> assumption
theorem rows_open {xs : List Sta} {rows : List (List Fr)} (h : rowsI xs = some rows) : ∃ a b c d e f g h i j k l m n o p : Fr, rows = [[a, b, c, d], [e, f, g, h], [i, j, k, l], [m, n, o, p]] ∧ realOk a = true ∧ realOk b = true ∧ realOk c = true ∧ realOk d = true ∧ realOk e = true ∧ realOk f = true ∧ realOk g = true ∧ realOk h = true ∧ realOk i = true ∧ realOk j = true ∧ realOk k = true ∧ realOk l = true ∧ realOk m = true ∧ realOk n = true ∧ realOk o = true ∧ realOk p = true := by
  obtain ⟨s0, s1, s2, s3, -, rfl, k0, k1, k2, k3⟩ := rowsI_open h
  obtain ⟨a, b, c, d, e0, p0, p1, p2, p3⟩ := row_open k0
  obtain ⟨e, f, g, h, e1, p4, p5, p6, p7⟩ := row_open k1
  obtain ⟨i, j, k, l, e2, p8, p9, p10, p11⟩ := row_open k2
  obtain ⟨m, n, o, p, e3, p12, p13, p14, p15⟩ := row_open k3
  exact ⟨a, b, c, d, e, f, g, h, i, j, k, l, m, n, o, p, by rw [e0, e1, e2, e3], p0, p1, p2, p3, p4, p5, p6, p7, p8, p9, p10, p11, p12, p13, p14, p15⟩
theorem rowsI_sq {xs : List Sta} {rows : List (List Fr)} (h : rowsI xs = some rows) : Sq 3 rows := by
  obtain ⟨a, b, c, d, e, f, g, h, i, j, k, l, m, n, o, p, rfl, hr⟩ := rows_open h
  exact sq_made hr
theorem det4_q {a b c d e f g h i j k l m n o p : Fr} (hs : Sq 3 [[a, b, c, d], [e, f, g, h], [i, j, k, l], [m, n, o, p]]) (hf : (detI 3 [[a, b, c, d], [e, f, g, h], [i, j, k, l], [m, n, o, p]]).2 = false) : qr (detI 3 [[a, b, c, d], [e, f, g, h], [i, j, k, l], [m, n, o, p]]).1 = d4 (qr a) (qr b) (qr c) (qr d) (qr e) (qr f) (qr g) (qr h) (qr i) (qr j) (qr k) (qr l) (qr m) (qr n) (qr o) (qr p) := det_q 3 _ hs hf
theorem detM_some {xs : List Sta} {v : Fr} (hd : detM xs = some v) : ∃ rows, rowsI xs = some rows ∧ (detI 3 rows).2 = false ∧ (detI 3 rows).1 = v ∧ realOk v = true := by
  unfold detM at hd
  cases hr : rowsI xs with
  | none => rw [hr] at hd; cases hd
  | some rows =>
    rw [hr, Option.bind_some] at hd
    split at hd
    · cases hd
    · rename_i hb
      obtain rfl := Option.some.inj hd
      have hb2 : (detI 3 rows).2 = false := by simpa using hb
      exact ⟨rows, rfl, hb2, rfl, ((det_eq 3 rows (rowsI_sq hr)).2 hb2).2⟩
/-- The reference's determinant. -/
theorem detM_S (xs : List Sta) : detM xs = (rowsI xs).bind fun rows => if (detS 3 rows).2 then none else some (detS 3 rows).1 := by
  unfold detM
  cases hr : rowsI xs with
  | none => rfl
  | some rows =>
    obtain ⟨h1, h2⟩ := det_eq 3 rows (rowsI_sq hr)
    simp only [Option.bind_some]
    rw [← h1]
    cases hb : (detI 3 rows).2
    · rw [(h2 hb).1]
    · rfl
theorem solM_S (xs : List Sta) (rs : List Fr) : solM xs rs = (rowsI xs).bind fun rows => solS rows rs := by
  unfold solM
  cases hr : rowsI xs with
  | none => rfl
  | some rows => rw [Option.bind_some, Option.bind_some, sol_eq (rowsI_sq hr)]
theorem neg_real {v : Fr} (h : realOk v = true) : realOk ⟨-v.re, -v.im, v.den⟩ = true ∧ qr ⟨-v.re, -v.im, v.den⟩ = -qr v := by
  obtain ⟨hv, hi, hd⟩ := real_parts h
  have hg := fvalid_gcd v hv
  have hb := fvalid_bd v hv
  refine ⟨?_, q_div_neg _ _⟩
  simp only [realOk, fvalid, Bool.and_eq_true, inB_iff, beq_iff_eq, hi]
  rw [hi] at hg
  refine ⟨⟨⟨⟨by omega, by omega⟩, by omega⟩, ?_⟩, by omega⟩
  unfold gcd3 gcdI absI at hg ⊢
  simpa using hg
/-- The values of four stations' determinant. -/
theorem detM_q {s0 s1 s2 s3 : Sta} {x : Fr} (hd : detM [s0, s1, s2, s3] = some x) : ∃ a b c d e f g h i j k l m n o p : Fr, rowG s0 = [a, b, c, d] ∧ rowG s1 = [e, f, g, h] ∧ rowG s2 = [i, j, k, l] ∧ rowG s3 = [m, n, o, p] ∧ qr x = d4 (qr a) (qr b) (qr c) (qr d) (qr e) (qr f) (qr g) (qr h) (qr i) (qr j) (qr k) (qr l) (qr m) (qr n) (qr o) (qr p) := by
  obtain ⟨rows, hr, hb, rfl, -⟩ := detM_some hd
  obtain ⟨t0, t1, t2, t3, ex, rfl, k0, k1, k2, k3⟩ := rowsI_open hr
  simp only [List.cons.injEq, and_true] at ex
  obtain ⟨rfl, rfl, rfl, rfl⟩ := ex
  have hs := rowsI_sq hr
  obtain ⟨a, b, c, d, e0, -⟩ := row_open k0
  obtain ⟨e, f, g, h, e1, -⟩ := row_open k1
  obtain ⟨i, j, k, l, e2, -⟩ := row_open k2
  obtain ⟨m, n, o, p, e3, -⟩ := row_open k3
  rw [e0, e1, e2, e3] at hs hb ⊢
  exact ⟨a, b, c, d, e, f, g, h, i, j, k, l, m, n, o, p, rfl, rfl, rfl, rfl, det4_q hs hb⟩
theorem det_swap {s0 s1 s2 s3 : Sta} {v x : Fr} (hv : detM [s0, s1, s2, s3] = some v) (hx : detM [s1, s0, s2, s3] = some x) : x = ⟨-v.re, -v.im, v.den⟩ := by
  obtain ⟨-, -, -, -, rv⟩ := detM_some hv
  obtain ⟨-, -, -, -, rx⟩ := detM_some hx
  obtain ⟨a, b, c, d, e, f, g, h, i, j, k, l, m, n, o, p, e0, e1, e2, e3, qv⟩ := detM_q hv
  obtain ⟨a', b', c', d', e', f', g', h', i', j', k', l', m', n', o', p', e0', e1', e2', e3', qx⟩ := detM_q hx
  rw [e1] at e0'; rw [e0] at e1'; rw [e2] at e2'; rw [e3] at e3'
  simp only [List.cons.injEq, and_true] at e0' e1' e2' e3'
  obtain ⟨rfl, rfl, rfl, rfl⟩ := e0'
  obtain ⟨rfl, rfl, rfl, rfl⟩ := e1'
  obtain ⟨rfl, rfl, rfl, rfl⟩ := e2'
  obtain ⟨rfl, rfl, rfl, rfl⟩ := e3'
  obtain ⟨n1, n2⟩ := neg_real rv
  refine q_uniq rx n1 ?_
  rw [n2, qv, qx, d4_swap]
theorem det_rev {s0 s1 s2 s3 : Sta} {v x : Fr} (hv : detM [s0, s1, s2, s3] = some v) (hx : detM [s3, s2, s1, s0] = some x) : x = v := by
  obtain ⟨-, -, -, -, rv⟩ := detM_some hv
  obtain ⟨-, -, -, -, rx⟩ := detM_some hx
  obtain ⟨a, b, c, d, e, f, g, h, i, j, k, l, m, n, o, p, e0, e1, e2, e3, qv⟩ := detM_q hv
  obtain ⟨a', b', c', d', e', f', g', h', i', j', k', l', m', n', o', p', e0', e1', e2', e3', qx⟩ := detM_q hx
  rw [e3] at e0'; rw [e2] at e1'; rw [e1] at e2'; rw [e0] at e3'
  simp only [List.cons.injEq, and_true] at e0' e1' e2' e3'
  obtain ⟨rfl, rfl, rfl, rfl⟩ := e0'
  obtain ⟨rfl, rfl, rfl, rfl⟩ := e1'
  obtain ⟨rfl, rfl, rfl, rfl⟩ := e2'
  obtain ⟨rfl, rfl, rfl, rfl⟩ := e3'
  refine q_uniq rx rv ?_
  rw [qv, qx, d4_rev]
/-- Equal stations tell nothing. -/
theorem det_same {xs : List Sta} {v : Fr} (hv : detM xs = some v) {i k : Nat} {s : Sta} (hi : xs[i]? = some s) (hk : xs[k]? = some s) (hki : k < i) : v.re = 0 := by
  obtain ⟨rows, hr, -, -, rv⟩ := detM_some hv
  obtain ⟨s0, s1, s2, s3, rfl, -, -, -, -, -⟩ := rowsI_open hr
  rw [← q_zero rv]
  obtain ⟨a, b, c, d, e, f, g, h, i1, j, k1, l, m, n, o, p, e0, e1, e2, e3, qv⟩ := detM_q hv
  have hi4 : i < 4 := (List.getElem?_eq_some_iff.1 hi).1
  rw [qv]
  clear qv hv hr rv
  match i, k, hi4, hki, hi, hk with
  | 1, 0, _, _, hi, hk =>
    obtain rfl := Option.some.inj hi
    obtain rfl := Option.some.inj hk
    rw [e0] at e1; simp only [List.cons.injEq, and_true] at e1
    obtain ⟨rfl, rfl, rfl, rfl⟩ := e1
    exact d4_same01 (e := 0) (f := 0) (g := 0) (h := 0) ..
  | 2, 0, _, _, hi, hk =>
    obtain rfl := Option.some.inj hi
    obtain rfl := Option.some.inj hk
    rw [e0] at e2; simp only [List.cons.injEq, and_true] at e2
    obtain ⟨rfl, rfl, rfl, rfl⟩ := e2
    exact d4_same02 (i := 0) (j := 0) (k := 0) (l := 0) ..
  | 2, 1, _, _, hi, hk =>
    obtain rfl := Option.some.inj hi
    obtain rfl := Option.some.inj hk
    rw [e1] at e2; simp only [List.cons.injEq, and_true] at e2
    obtain ⟨rfl, rfl, rfl, rfl⟩ := e2
    exact d4_same12 (i := 0) (j := 0) (k := 0) (l := 0) ..
  | 3, 0, _, _, hi, hk =>
    obtain rfl := Option.some.inj hi
    obtain rfl := Option.some.inj hk
    rw [e0] at e3; simp only [List.cons.injEq, and_true] at e3
    obtain ⟨rfl, rfl, rfl, rfl⟩ := e3
    exact d4_same03 (m := 0) (n := 0) (o := 0) (p := 0) ..
  | 3, 1, _, _, hi, hk =>
    obtain rfl := Option.some.inj hi
    obtain rfl := Option.some.inj hk
    rw [e1] at e3; simp only [List.cons.injEq, and_true] at e3
    obtain ⟨rfl, rfl, rfl, rfl⟩ := e3
    exact d4_same13 (m := 0) (n := 0) (o := 0) (p := 0) ..
  | 3, 2, _, _, hi, hk =>
    obtain rfl := Option.some.inj hi
    obtain rfl := Option.some.inj hk
    rw [e2] at e3; simp only [List.cons.injEq, and_true] at e3
    obtain ⟨rfl, rfl, rfl, rfl⟩ := e3
    exact d4_same23 (m := 0) (n := 0) (o := 0) (p := 0) ..
theorem good_some {xs : List Sta} (h : goodM xs = true) : ∃ v s0 s1 s2 s3, detM xs = some v ∧ v.re ≠ 0 ∧ xs = [s0, s1, s2, s3] := by
  unfold goodM at h
  cases hd : detM xs with
  | none => rw [hd] at h; cases h
  | some v =>
    rw [hd] at h
    obtain ⟨rows, hr, -⟩ := detM_some hd
    obtain ⟨s0, s1, s2, s3, hx, -⟩ := rowsI_open hr
    refine ⟨v, s0, s1, s2, s3, rfl, ?_, hx⟩
    simpa using h
/-- Good stations are four that differ. -/
theorem good_apart {xs : List Sta} (h : goodM xs = true) {i k : Nat} {s t : Sta} (hi : xs[i]? = some s) (hk : xs[k]? = some t) (hki : k < i) : s ≠ t := by
  obtain ⟨v, s0, s1, s2, s3, hd, hv, -⟩ := good_some h
  rintro rfl
  exact hv (det_same hd hi hk hki)
theorem good_rev {s0 s1 s2 s3 : Sta} (h : goodM [s0, s1, s2, s3] = true) {x : Fr} (hx : detM [s3, s2, s1, s0] = some x) : goodM [s3, s2, s1, s0] = true := by
  obtain ⟨v, t0, t1, t2, t3, hd, hv, ex⟩ := good_some h
  have e := det_rev hd hx
  unfold goodM
  rw [hx, e]
  simpa using hv
/-- What solves rows, as rational numbers. -/
theorem sol_q {a b c d e f g h i j k l m n o p y u v x : Fr} {xs : List Fr} (hr : realOk a = true ∧ realOk b = true ∧ realOk c = true ∧ realOk d = true ∧ realOk e = true ∧ realOk f = true ∧ realOk g = true ∧ realOk h = true ∧ realOk i = true ∧ realOk j = true ∧ realOk k = true ∧ realOk l = true ∧ realOk m = true ∧ realOk n = true ∧ realOk o = true ∧ realOk p = true) (hs : solI [[a, b, c, d], [e, f, g, h], [i, j, k, l], [m, n, o, p]] [y, u, v, x] = some xs) :
    realOk y = true ∧ realOk u = true ∧ realOk v = true ∧ realOk x = true ∧ d4 (qr a) (qr b) (qr c) (qr d) (qr e) (qr f) (qr g) (qr h) (qr i) (qr j) (qr k) (qr l) (qr m) (qr n) (qr o) (qr p) ≠ 0 ∧ ∃ x0 x1 x2 x3 : Fr, xs = [x0, x1, x2, x3] ∧ realOk x0 = true ∧ realOk x1 = true ∧ realOk x2 = true ∧ realOk x3 = true ∧
  qr x0 * d4 (qr a) (qr b) (qr c) (qr d) (qr e) (qr f) (qr g) (qr h) (qr i) (qr j) (qr k) (qr l) (qr m) (qr n) (qr o) (qr p) = d4 (qr y) (qr b) (qr c) (qr d) (qr u) (qr f) (qr g) (qr h) (qr v) (qr j) (qr k) (qr l) (qr x) (qr n) (qr o) (qr p) ∧ qr x1 * d4 (qr a) (qr b) (qr c) (qr d) (qr e) (qr f) (qr g) (qr h) (qr i) (qr j) (qr k) (qr l) (qr m) (qr n) (qr o) (qr p) = d4 (qr a) (qr y) (qr c) (qr d) (qr e) (qr u) (qr g) (qr h) (qr i) (qr v) (qr k) (qr l) (qr m) (qr x) (qr o) (qr p) ∧ qr x2 * d4 (qr a) (qr b) (qr c) (qr d) (qr e) (qr f) (qr g) (qr h) (qr i) (qr j) (qr k) (qr l) (qr m) (qr n) (qr o) (qr p) = d4 (qr a) (qr b) (qr y) (qr d) (qr e) (qr f) (qr u) (qr h) (qr i) (qr j) (qr v) (qr l) (qr m) (qr n) (qr x) (qr p) ∧ qr x3 * d4 (qr a) (qr b) (qr c) (qr d) (qr e) (qr f) (qr g) (qr h) (qr i) (qr j) (qr k) (qr l) (qr m) (qr n) (qr o) (qr p) = d4 (qr a) (qr b) (qr c) (qr y) (qr e) (qr f) (qr g) (qr u) (qr i) (qr j) (qr k) (qr v) (qr m) (qr n) (qr o) (qr x) := by
  have hS := sq_made hr
  unfold solI at hs
  split at hs
  · rename_i hc
    simp only [Bool.and_eq_true] at hc
    have hrs := hc.1
    have hry := hrs
    simp only [List.all_cons, List.all_nil, Bool.and_true, Bool.and_eq_true] at hry
    obtain ⟨ry, ru, rv, rx⟩ := hry
    split at hs
    · cases hs
    · rename_i hb
      simp only [Bool.or_eq_true, not_or, Bool.not_eq_true, beq_eq_false_iff_ne, ne_eq] at hb
      obtain ⟨hb, hz⟩ := hb
      split at hs
      · cases hs
      · rename_i hk
        obtain rfl := Option.some.inj hs
        have hk2 : (solIK [[a, b, c, d], [e, f, g, h], [i, j, k, l], [m, n, o, p]] [y, u, v, x] (detI 3 [[a, b, c, d], [e, f, g, h], [i, j, k, l], [m, n, o, p]]).1 4).2 = false := by simpa using hk
        obtain ⟨D, hD⟩ : ∃ D, D = (detI 3 [[a, b, c, d], [e, f, g, h], [i, j, k, l], [m, n, o, p]]).1 := ⟨_, rfl⟩
        have rD : realOk D = true := by rw [hD]; exact ((det_eq 3 _ hS).2 hb).2
        have qD : qr D = d4 (qr a) (qr b) (qr c) (qr d) (qr e) (qr f) (qr g) (qr h) (qr i) (qr j) (qr k) (qr l) (qr m) (qr n) (qr o) (qr p) := by rw [hD]; exact det4_q hS hb
        rw [← hD] at hk2 ⊢
        simp only [solIK, Bool.or_eq_false_iff, Bool.false_or] at hk2
        obtain ⟨⟨⟨⟨⟨⟨⟨b0, o0⟩, b1⟩, o1⟩, b2⟩, o2⟩, b3⟩, o3⟩ := hk2
        have hc0 := col_sq (k := 0) hS (rs := [y, u, v, x]) rfl hrs
        have hc1 := col_sq (k := 1) hS (rs := [y, u, v, x]) rfl hrs
        have hc2 := col_sq (k := 2) hS (rs := [y, u, v, x]) rfl hrs
        have hc3 := col_sq (k := 3) hS (rs := [y, u, v, x]) rfl hrs
        have key : ∀ kk, Sq 3 (colK kk [[a, b, c, d], [e, f, g, h], [i, j, k, l], [m, n, o, p]] [y, u, v, x]) → (detI 3 (colK kk [[a, b, c, d], [e, f, g, h], [i, j, k, l], [m, n, o, p]] [y, u, v, x])).2 = false → (overI (detI 3 (colK kk [[a, b, c, d], [e, f, g, h], [i, j, k, l], [m, n, o, p]] [y, u, v, x])).1 D).isNone = false → ∃ z, overI (detI 3 (colK kk [[a, b, c, d], [e, f, g, h], [i, j, k, l], [m, n, o, p]] [y, u, v, x])).1 D = some z ∧ realOk z = true ∧ qr D ≠ 0 ∧ qr z * qr D = detQ 3 (mq (colK kk [[a, b, c, d], [e, f, g, h], [i, j, k, l], [m, n, o, p]] [y, u, v, x])) := by
          intro kk h1 h2 h3
          cases ho : overI (detI 3 (colK kk [[a, b, c, d], [e, f, g, h], [i, j, k, l], [m, n, o, p]] [y, u, v, x])).1 D with
          | none => rw [ho] at h3; cases h3
          | some z =>
            obtain ⟨z1, z2, z3⟩ := q_over ((det_eq 3 _ h1).2 h2).2 rD ho
            exact ⟨z, rfl, z1, z2, by rw [z3, det_q 3 _ h1 h2]⟩
        obtain ⟨x0, e0, r0, hne, q0⟩ := key 0 hc0 b0 o0
        obtain ⟨x1, e1, r1, -, q1⟩ := key 1 hc1 b1 o1
        obtain ⟨x2, e2, r2, -, q2⟩ := key 2 hc2 b2 o2
        obtain ⟨x3, e3, r3, -, q3⟩ := key 3 hc3 b3 o3
        rw [qD] at hne q0 q1 q2 q3
        refine ⟨ry, ru, rv, rx, hne, x0, x1, x2, x3, ?_, r0, r1, r2, r3, q0, q1, q2, q3⟩
        simp only [solIK, e0, e1, e2, e3, Option.getD_some, List.nil_append, List.cons_append]
  · cases hs
theorem q_cancel {x y d : Rat} (hd : d ≠ 0) (h : x * d = y * d) : x = y := by grind
/-- Solved numbers have these readings. -/
theorem sol_rows {a b c d e f g h i j k l m n o p y u v x : Fr} {xs : List Fr} (hr : realOk a = true ∧ realOk b = true ∧ realOk c = true ∧ realOk d = true ∧ realOk e = true ∧ realOk f = true ∧ realOk g = true ∧ realOk h = true ∧ realOk i = true ∧ realOk j = true ∧ realOk k = true ∧ realOk l = true ∧ realOk m = true ∧ realOk n = true ∧ realOk o = true ∧ realOk p = true) (hs : solI [[a, b, c, d], [e, f, g, h], [i, j, k, l], [m, n, o, p]] [y, u, v, x] = some xs) :
    ∃ x0 x1 x2 x3 : Fr, xs = [x0, x1, x2, x3] ∧ realOk x0 = true ∧ realOk x1 = true ∧ realOk x2 = true ∧ realOk x3 = true ∧
  qr a * qr x0 + qr b * qr x1 + qr c * qr x2 + qr d * qr x3 = qr y ∧ qr e * qr x0 + qr f * qr x1 + qr g * qr x2 + qr h * qr x3 = qr u ∧ qr i * qr x0 + qr j * qr x1 + qr k * qr x2 + qr l * qr x3 = qr v ∧ qr m * qr x0 + qr n * qr x1 + qr o * qr x2 + qr p * qr x3 = qr x := by
  obtain ⟨ry, ru, rv, rx, hne, x0, x1, x2, x3, ex, r0, r1, r2, r3, q0, q1, q2, q3⟩ := sol_q hr hs
  refine ⟨x0, x1, x2, x3, ex, r0, r1, r2, r3, ?_, ?_, ?_, ?_⟩
  · refine q_cancel hne ?_
    rw [← d4_row0 (qr a) (qr b) (qr c) (qr d) (qr e) (qr f) (qr g) (qr h) (qr i) (qr j) (qr k) (qr l) (qr m) (qr n) (qr o) (qr p) (qr y) (qr u) (qr v) (qr x), ← q0, ← q1, ← q2, ← q3]
    grind
  · refine q_cancel hne ?_
    rw [← d4_row1 (qr a) (qr b) (qr c) (qr d) (qr e) (qr f) (qr g) (qr h) (qr i) (qr j) (qr k) (qr l) (qr m) (qr n) (qr o) (qr p) (qr y) (qr u) (qr v) (qr x), ← q0, ← q1, ← q2, ← q3]
    grind
  · refine q_cancel hne ?_
    rw [← d4_row2 (qr a) (qr b) (qr c) (qr d) (qr e) (qr f) (qr g) (qr h) (qr i) (qr j) (qr k) (qr l) (qr m) (qr n) (qr o) (qr p) (qr y) (qr u) (qr v) (qr x), ← q0, ← q1, ← q2, ← q3]
    grind
  · refine q_cancel hne ?_
    rw [← d4_row3 (qr a) (qr b) (qr c) (qr d) (qr e) (qr f) (qr g) (qr h) (qr i) (qr j) (qr k) (qr l) (qr m) (qr n) (qr o) (qr p) (qr y) (qr u) (qr v) (qr x), ← q0, ← q1, ← q2, ← q3]
    grind
/-- What rows read of four numbers is solved for these. -/
theorem sol_back {a b c d e f g h i j k l m n o p y u v x s0 s1 s2 s3 : Fr} {xs : List Fr} (hr : realOk a = true ∧ realOk b = true ∧ realOk c = true ∧ realOk d = true ∧ realOk e = true ∧ realOk f = true ∧ realOk g = true ∧ realOk h = true ∧ realOk i = true ∧ realOk j = true ∧ realOk k = true ∧ realOk l = true ∧ realOk m = true ∧ realOk n = true ∧ realOk o = true ∧ realOk p = true) (hs : solI [[a, b, c, d], [e, f, g, h], [i, j, k, l], [m, n, o, p]] [y, u, v, x] = some xs) (t0 : realOk s0 = true) (t1 : realOk s1 = true) (t2 : realOk s2 = true) (t3 : realOk s3 = true)
    (w0 : qr y = qr a * qr s0 + qr b * qr s1 + qr c * qr s2 + qr d * qr s3)
    (w1 : qr u = qr e * qr s0 + qr f * qr s1 + qr g * qr s2 + qr h * qr s3)
    (w2 : qr v = qr i * qr s0 + qr j * qr s1 + qr k * qr s2 + qr l * qr s3)
    (w3 : qr x = qr m * qr s0 + qr n * qr s1 + qr o * qr s2 + qr p * qr s3) : xs = [s0, s1, s2, s3] := by
  obtain ⟨ry, ru, rv, rx, hne, x0, x1, x2, x3, ex, r0, r1, r2, r3, q0, q1, q2, q3⟩ := sol_q hr hs
  rw [w0, w1, w2, w3] at q0 q1 q2 q3
  rw [d4_col0] at q0
  rw [d4_col1] at q1
  rw [d4_col2] at q2
  rw [d4_col3] at q3
  rw [ex, q_uniq r0 t0 (q_cancel hne q0), q_uniq r1 t1 (q_cancel hne q1), q_uniq r2 t2 (q_cancel hne q2), q_uniq r3 t3 (q_cancel hne q3)]
/-- A reading as a rational number. -/
theorem dot4_q {a b c d x y z u : Fr} (ha : realOk a = true) (hb : realOk b = true) (hc : realOk c = true) (hd : realOk d = true) (hx : realOk x = true) (hy : realOk y = true) (hz : realOk z = true) (hu : realOk u = true) (h : (dotI (fun k => [a, b, c, d].getD k zK) (fun k => [x, y, z, u].getD k zK) 4).2 = false) :
    qr (dotI (fun k => [a, b, c, d].getD k zK) (fun k => [x, y, z, u].getD k zK) 4).1 = qr a * qr x + qr b * qr y + qr c * qr z + qr d * qr u ∧ realOk (dotI (fun k => [a, b, c, d].getD k zK) (fun k => [x, y, z, u].getD k zK) 4).1 = true := by
  obtain ⟨h1, h2⟩ := dot_q (r := fun k => [a, b, c, d].getD k zK) (c := fun k => [x, y, z, u].getD k zK) 4
    (fun k hk => match k, hk with | 0, _ => ha | 1, _ => hb | 2, _ => hc | 3, _ => hd) (fun k hk => match k, hk with | 0, _ => hx | 1, _ => hy | 2, _ => hz | 3, _ => hu) h (by omega)
  refine ⟨?_, h2⟩
  rw [h1]
  show 0 + qr a * qr x + qr b * qr y + qr c * qr z + qr d * qr u = _
  rw [Rat.zero_add]
end Go.Proofs.YtodhbkinbcemnaaDoor
