/-
  Readings of stations and tables at work on four numbers, in plain Lean.
-/
import Derived.Test.YtodhbkinbcemnaaGreatDoorTw
import Derived.Test.YtodhbkinbcemnaaGreatDoorPh
namespace Go.Proofs.YtodhbkinbcemnaaGreatDoor
set_option linter.unusedSimpArgs false
set_option linter.unusedVariables false
open Go.RowKit
def mrow (m : Mt) (k : Nat) : Fr := (row4 m).getD k zK
def lrow (r : List Fr) (k : Nat) : Fr := r.getD k zK
/-- A row times four numbers: the value and whether something was none. -/
def rdI (r : List Fr) (m : Mt) : Fr × Bool := dotI (lrow r) (mrow m) 4
def rdS (r : List Fr) (m : Mt) : Fr × Bool := dotS (lrow r) (mrow m) 4
def rdG (m : Mt) (s : Sta) : Fr := (rdI (rowG s) m).1
def rdOk (m : Mt) (s : Sta) : Bool := rowOk s && !(rdI (rowG s) m).2
/-- What stations read. -/
def readM (xs : List Sta) (m : Mt) : Option (List Fr) := if decide (xs.length ≤ 16) && (mreal m && xs.all (rdOk m)) then some (xs.map (rdG m)) else none
theorem mrow_real {m : Mt} (h : mreal m = true) : ∀ k, k < 4 → realOk (mrow m k) = true := by
  simp only [mreal, Bool.and_eq_true] at h
  obtain ⟨h0, h1, h2, h3⟩ := h
  intro k hk
  match k, hk with
  | 0, _ => exact h0
  | 1, _ => exact h1
  | 2, _ => exact h2
  | 3, _ => exact h3
theorem lrow_real {s : Sta} (h : rowOk s = true) : ∀ k, k < 4 → realOk (lrow (rowG s) k) = true := by
  obtain ⟨a, b, c, d, e, h0, h1, h2, h3⟩ := row_open h
  intro k hk
  rw [e]
  match k, hk with
  | 0, _ => exact h0
  | 1, _ => exact h1
  | 2, _ => exact h2
  | 3, _ => exact h3
theorem rd_eq {r : List Fr} {m : Mt} (hr : ∀ k, k < 4 → realOk (lrow r k) = true) (hm : mreal m = true) : (rdI r m).2 = (rdS r m).2 ∧ ((rdI r m).2 = false → (rdI r m).1 = (rdS r m).1 ∧ realOk (rdI r m).1 = true) := by
  obtain ⟨h1, h2⟩ := dot_eq (r := lrow r) (c := mrow m) 4 hr (mrow_real hm)
  exact ⟨h1, fun h => h2 h (by omega)⟩
/-- A reading as a rational number. -/
theorem rd_q {r : List Fr} {m : Mt} (hr : ∀ k, k < 4 → realOk (lrow r k) = true) (hm : mreal m = true) (h : (rdI r m).2 = false) :
    qr (rdI r m).1 = qr (lrow r 0) * qr m.a + qr (lrow r 1) * qr m.b + qr (lrow r 2) * qr m.c + qr (lrow r 3) * qr m.d ∧ realOk (rdI r m).1 = true := by
  obtain ⟨h1, h2⟩ := dot_q (r := lrow r) (c := mrow m) 4 hr (mrow_real hm) h (by omega)
  refine ⟨?_, h2⟩
  unfold rdI
  rw [h1]
  show 0 + qr (lrow r 0) * qr m.a + qr (lrow r 1) * qr m.b + qr (lrow r 2) * qr m.c + qr (lrow r 3) * qr m.d = _
  rw [Rat.zero_add]
theorem read_some {xs : List Sta} {m : Mt} {rs : List Fr} (h : readM xs m = some rs) : xs.length ≤ 16 ∧ mreal m = true ∧ (∀ s ∈ xs, rdOk m s = true) ∧ rs = xs.map (rdG m) := by
  unfold readM at h
  split at h
  · rename_i hc
    simp only [Bool.and_eq_true, decide_eq_true_eq] at hc
    exact ⟨hc.1, hc.2.1, List.all_eq_true.1 hc.2.2, (Option.some.inj h).symm⟩
  · cases h
theorem rdOk_parts {m : Mt} {s : Sta} (h : rdOk m s = true) : rowOk s = true ∧ (rdI (rowG s) m).2 = false := by
  simpa [rdOk] using h
/-- What a polarimeter reads of a state is that state. -/
theorem solved_law {xs : List Sta} {m : Mt} {rs out : List Fr} (hr : readM xs m = some rs) (hs : solM xs rs = some out) : out = row4 m := by
  obtain ⟨-, hm, hk, rfl⟩ := read_some hr
  unfold solM at hs
  cases hR : rowsI xs with
  | none => rw [hR] at hs; cases hs
  | some rows =>
    rw [hR, Option.bind_some] at hs
    obtain ⟨s0, s1, s2, s3, rfl, rfl, k0, k1, k2, k3⟩ := rowsI_open hR
    have q := fun s (h : s ∈ [s0, s1, s2, s3]) => (rd_q (lrow_real (rdOk_parts (hk s h)).1) hm (rdOk_parts (hk s h)).2).1
    have q0 := q s0 (by simp)
    have q1 := q s1 (by simp)
    have q2 := q s2 (by simp)
    have q3 := q s3 (by simp)
    obtain ⟨a, b, c, d, e0, p0, p1, p2, p3⟩ := row_open k0
    obtain ⟨e, f, g, h, e1, p4, p5, p6, p7⟩ := row_open k1
    obtain ⟨i, j, k, l, e2, p8, p9, p10, p11⟩ := row_open k2
    obtain ⟨mm, n, o, p, e3, p12, p13, p14, p15⟩ := row_open k3
    simp only [List.map_cons, List.map_nil] at hs
    unfold rdG at hs
    rw [e0] at q0; rw [e1] at q1; rw [e2] at q2; rw [e3] at q3
    rw [e0, e1, e2, e3] at hs
    have hmm := hm
    simp only [mreal, Bool.and_eq_true] at hmm
    exact sol_back ⟨p0, p1, p2, p3, p4, p5, p6, p7, p8, p9, p10, p11, p12, p13, p14, p15⟩ hs hmm.1 hmm.2.1 hmm.2.2.1 hmm.2.2.2 q0 q1 q2 q3
/-- Solved states have these readings, are valid, and the stations are good. -/
theorem solve_law {xs : List Sta} {m : Mt} {rs : List Fr} (hs : solM xs rs = some (row4 m)) : mreal m = true ∧ goodM xs = true ∧ ∀ x, readM xs m = some x → x = rs := by
  unfold solM at hs
  cases hR : rowsI xs with
  | none => rw [hR] at hs; cases hs
  | some rows =>
    rw [hR, Option.bind_some] at hs
    obtain ⟨s0, s1, s2, s3, rfl, rfl, k0, k1, k2, k3⟩ := rowsI_open hR
    obtain ⟨a, b, c, d, e0, p0, p1, p2, p3⟩ := row_open k0
    obtain ⟨e, f, g, h, e1, p4, p5, p6, p7⟩ := row_open k1
    obtain ⟨i, j, k, l, e2, p8, p9, p10, p11⟩ := row_open k2
    obtain ⟨mm, n, o, p, e3, p12, p13, p14, p15⟩ := row_open k3
    have hrs : rs.length = 4 := by
      unfold solI at hs
      split at hs
      · rename_i hc; simp only [Bool.and_eq_true, decide_eq_true_eq] at hc; exact hc.2.2
      · cases hs
    have hS := rowsI_sq hR
    have hdet : ∃ D, (detI 3 [rowG s0, rowG s1, rowG s2, rowG s3]).2 = false ∧ (detI 3 [rowG s0, rowG s1, rowG s2, rowG s3]).1 = D ∧ D.re ≠ 0 := by
      unfold solI at hs
      split at hs
      · split at hs
        · cases hs
        · rename_i hb
          simp only [Bool.or_eq_true, not_or, Bool.not_eq_true, beq_eq_false_iff_ne, ne_eq] at hb
          refine ⟨_, hb.1, rfl, fun hz => hb.2 ?_⟩
          have := real_zero ((det_eq 3 _ hS).2 hb.1).2
          rw [hz] at this
          simpa using this
      · cases hs
    obtain ⟨D, hb, hD, hz⟩ := hdet
    have hgood : goodM [s0, s1, s2, s3] = true := by
      unfold goodM detM
      rw [hR, Option.bind_some, hb, hD]
      simpa using hz
    match rs, hrs with
    | [y, u, v, x], _ =>
      have hs2 := hs
      rw [e0, e1, e2, e3] at hs2
      obtain ⟨x0, x1, x2, x3, ex, r0, r1, r2, r3, w0, w1, w2, w3⟩ := sol_rows ⟨p0, p1, p2, p3, p4, p5, p6, p7, p8, p9, p10, p11, p12, p13, p14, p15⟩ hs2
      obtain ⟨ry, ru, rv, rx, -⟩ := sol_q ⟨p0, p1, p2, p3, p4, p5, p6, p7, p8, p9, p10, p11, p12, p13, p14, p15⟩ hs2
      simp only [row4, List.cons.injEq, and_true] at ex
      obtain ⟨rfl, rfl, rfl, rfl⟩ := ex
      have hm : mreal m = true := by simp only [mreal, r0, r1, r2, r3, Bool.and_self]
      refine ⟨hm, hgood, fun z hzr => ?_⟩
      obtain ⟨-, -, hk, rfl⟩ := read_some hzr
      have q := fun s (h : s ∈ [s0, s1, s2, s3]) => (rd_q (lrow_real (rdOk_parts (hk s h)).1) hm (rdOk_parts (hk s h)).2)
      have q0 := q s0 (by simp)
      have q1 := q s1 (by simp)
      have q2 := q s2 (by simp)
      have q3 := q s3 (by simp)
      rw [e0] at q0; rw [e1] at q1; rw [e2] at q2; rw [e3] at q3
      simp only [List.map_cons, List.map_nil]
      unfold rdG
      rw [e0, e1, e2, e3]
      rw [q_uniq q0.2 ry (q0.1.trans w0), q_uniq q1.2 ru (q1.1.trans w1), q_uniq q2.2 rv (q2.1.trans w2), q_uniq q3.2 rx (q3.1.trans w3)]
/-- A table at work on four numbers. -/
def taI (t : List Fr) (m : Mt) : Nat → List Fr × Bool
  | 0 => ([], false)
  | n + 1 => ((taI t m n).1 ++ [(dotI (trow t n) (mrow m) 4).1], (taI t m n).2 || (dotI (trow t n) (mrow m) 4).2)
def lm4 (xs : List Fr) : Mt := ⟨xs.getD 0 zK, xs.getD 1 zK, xs.getD 2 zK, xs.getD 3 zK⟩
def tapI (t : List Fr) (m : Mt) : Option Mt := if !(t.all realOk && mreal m) || (taI t m 4).2 then none else some (lm4 (taI t m 4).1)
theorem ta_len (t : List Fr) (m : Mt) : ∀ n, (taI t m n).1.length = n
  | 0 => rfl
  | n + 1 => by simp [taI, ta_len t m n]
theorem ttS_mono {a b : List Fr} {n : Nat} (h : (ttS a b n).2 = true) : ∀ k, n ≤ k → (ttS a b k).2 = true
  | 0, hk => by obtain rfl : n = 0 := by omega
                exact h
  | k + 1, hk => by
    rcases Nat.lt_or_ge n (k + 1) with h1 | h1
    · simp only [ttS, ttS_mono h k (by omega), Bool.true_or]
    · obtain rfl : n = k + 1 := by omega
      exact h
/-- The numbers that a table makes, as rational ones. -/
theorem tap_q {t : List Fr} {m x : Mt} (ht : t.length = 16) (h : tapI t m = some x) : t.all realOk = true ∧ mreal m = true ∧ mreal x = true ∧
    ∀ i, i < 4 → qr (mrow x i) = qr (t.getD (4 * i) zK) * qr m.a + qr (t.getD (4 * i + 1) zK) * qr m.b + qr (t.getD (4 * i + 2) zK) * qr m.c + qr (t.getD (4 * i + 3) zK) * qr m.d := by
  unfold tapI at h
  split at h
  · cases h
  rename_i hc
  obtain rfl := Option.some.inj h
  simp only [Bool.or_eq_true, Bool.not_eq_true', not_or, Bool.not_eq_false, Bool.not_eq_true, Bool.and_eq_true] at hc
  obtain ⟨⟨h1, h2⟩, h3⟩ := hc
  have key : ∀ i, i < 4 → (dotI (trow t i) (mrow m) 4).2 = false := by
    simp only [taI, Bool.or_eq_false_iff, Bool.false_or] at h3
    intro i hi
    match i, hi with
    | 0, _ => exact h3.1.1.1
    | 1, _ => exact h3.1.1.2
    | 2, _ => exact h3.1.2
    | 3, _ => exact h3.2
  have hrow : ∀ i, i < 4 → mrow (lm4 (taI t m 4).1) i = (dotI (trow t i) (mrow m) 4).1 := by
    intro i hi
    match i, hi with
    | 0, _ => rfl
    | 1, _ => rfl
    | 2, _ => rfl
    | 3, _ => rfl
  have hq : ∀ i, i < 4 → _ := fun i hi => dot_q (r := trow t i) (c := mrow m) 4 (fun k hk => getD_real h1 (by omega)) (mrow_real h2) (key i hi) (by omega)
  refine ⟨h1, h2, ?_, fun i hi => ?_⟩
  · have r := fun i hi => (hq i hi).2
    have r0 := r 0 (by omega)
    have r1 := r 1 (by omega)
    have r2 := r 2 (by omega)
    have r3 := r 3 (by omega)
    rw [← hrow 0 (by omega)] at r0
    rw [← hrow 1 (by omega)] at r1
    rw [← hrow 2 (by omega)] at r2
    rw [← hrow 3 (by omega)] at r3
    simp only [mreal, Bool.and_eq_true]
    exact ⟨r0, r1, r2, r3⟩
  · rw [hrow i hi, (hq i hi).1]
    show 0 + qr (t.getD (4 * i + 0) zK) * qr m.a + qr (t.getD (4 * i + 1) zK) * qr m.b + qr (t.getD (4 * i + 2) zK) * qr m.c + qr (t.getD (4 * i + 3) zK) * qr m.d = _
    rw [Rat.zero_add, Nat.add_zero]
/-- The rows of a station as rational numbers of the plate's table. -/
theorem row_cell {s : Sta} {P : Mt} {T : List Fr} (hp : plateI s.p s.q 1 = some P) (ht : tabM P = some T) (h : rowOk s = true) :
    T.length = 16 ∧ ∀ j, j < 4 → qr (lrow (rowG s) j) = (qr (T.getD j zK) + qr (T.getD (4 + j) zK)) / 2 := by
  have tl := tab_len ht
  refine ⟨tl, ?_⟩
  unfold rowOk at h
  unfold lrow rowG
  have hR : rowI s = (ttimesI filtT T).map (·.take 4) := by
    unfold rowI
    rw [hp, Option.bind_some, ht, Option.bind_some]
  rw [hR] at h ⊢
  cases hx : ttimesI filtT T with
  | none => rw [hx] at h; cases h
  | some xs =>
  obtain ⟨l16, -, rfl, hbad⟩ := ttimes_some rfl tl hx
  have hreals : T.all realOk = true := by
    unfold ttimesI at hx
    split at hx
    · cases hx
    · rename_i hc
      simp only [Bool.or_eq_true, Bool.not_eq_true', not_or, Bool.not_eq_false, Bool.and_eq_true] at hc
      exact hc.1.2
  intro j hj
  obtain ⟨g1, g2⟩ := tt_cell (m := j) (n := 16) (by omega) hbad
  have e0 : j / 4 = 0 := by omega
  have e1 : j % 4 = j := by omega
  rw [e0, e1] at g1 g2
  obtain ⟨d1, -⟩ := dot_q (r := trow filtT 0) (c := tcol T j) 4 (fun k hk => getD_real (a := filtT) (by decide) (by show 4 * 0 + k < 16; omega)) (fun k hk => getD_real hreals (by omega)) g2 (by omega)
  rw [Option.map_some, Option.getD_some, List.getD_eq_getElem?_getD, List.getElem?_take, if_pos hj, g1, Option.getD_some, d1]
  simp only [dotQ, trow, tcol]
  have f0 : filtT.getD (4 * 0 + 0) zK = hf := rfl
  have f1 : filtT.getD (4 * 0 + 1) zK = hf := rfl
  have f2 : filtT.getD (4 * 0 + 2) zK = z1 := rfl
  have f3 : filtT.getD (4 * 0 + 3) zK = z1 := rfl
  rw [f0, f1, f2, f3, q_hf.1, q_hf.2, show 4 * 0 + j = j by omega, show 4 * 1 + j = 4 + j by omega]
  grind
/-- Readings are those of a bench. -/
theorem bench_law {s : Sta} {P m x z : Mt} {T : List Fr} (hp : plateI s.p s.q 1 = some P) (ht : tabM P = some T) (hx : tapI T m = some x) (hz : tapI filtT x = some z) (h : rdOk m s = true) : z.a = rdG m s := by
  obtain ⟨h1, h2⟩ := rdOk_parts h
  obtain ⟨tl, hc⟩ := row_cell hp ht h1
  obtain ⟨-, hm, hrx, qx⟩ := tap_q tl hx
  obtain ⟨-, -, hrz, qz⟩ := tap_q (t := filtT) rfl hz
  obtain ⟨q1, q2⟩ := rd_q (lrow_real h1) hm h2
  have rz : realOk z.a = true := mrow_real hrz 0 (by omega)
  refine q_uniq rz q2 ?_
  have z0 := qz 0 (by omega)
  have x0 := qx 0 (by omega)
  have x1 := qx 1 (by omega)
  rw [show mrow z 0 = z.a from rfl] at z0
  rw [show mrow x 0 = x.a from rfl] at x0
  rw [show mrow x 1 = x.b from rfl] at x1
  have f0 : filtT.getD (4 * 0) zK = hf := rfl
  have f1 : filtT.getD (4 * 0 + 1) zK = hf := rfl
  have f2 : filtT.getD (4 * 0 + 2) zK = z1 := rfl
  have f3 : filtT.getD (4 * 0 + 3) zK = z1 := rfl
  rw [f0, f1, f2, f3, q_hf.1, q_hf.2, x0, x1] at z0
  unfold rdG
  rw [z0, q1, hc 0 (by omega), hc 1 (by omega), hc 2 (by omega), hc 3 (by omega)]
  clear z0 x0 x1 qx qz q1 hc
  simp only [Nat.mul_zero, Nat.zero_add, Nat.mul_one, Nat.add_zero]
  grind
theorem sq_nn (x : Rat) : 0 ≤ x * x := by
  rcases Rat.le_total (a := 0) (b := x) with h | h
  · exact Rat.mul_nonneg h h
  · have h2 : 0 ≤ -x := by grind
    have := Rat.mul_nonneg h2 h2
    grind
/-- Light gives no negative reading. -/
theorem light_law {s : Sta} {m : Mt} (hm : mreal m = true) (h : rdOk m s = true) (h0 : 0 ≤ qr m.a) (hl : qr m.b * qr m.b + qr m.c * qr m.c + qr m.d * qr m.d ≤ qr m.a * qr m.a) : 0 ≤ (rdG m s).re := by
  obtain ⟨h1, h2⟩ := rdOk_parts h
  obtain ⟨a, b, c, d, e, p0, p1, p2, p3⟩ := row_open h1
  obtain ⟨q1, q2⟩ := rd_q (lrow_real h1) hm h2
  have hR : rowI s = some [a, b, c, d] := by
    unfold rowOk at h1
    obtain ⟨r, hr⟩ := Option.isSome_iff_exists.1 h1
    unfold rowG at e
    rw [hr] at e
    rw [hr, ← e]
    rfl
  obtain ⟨ea, eq⟩ := row_law hR
  have hpos : 0 ≤ qr (rdG m s) := by
    unfold rdG
    rw [q1, e]
    show 0 ≤ qr a * qr m.a + qr b * qr m.b + qr c * qr m.c + qr d * qr m.d
    rw [ea, show qr ⟨1, 0, 2⟩ = 1 / 2 from q_hf.1]
    generalize qr m.a = A at *
    generalize qr m.b = B at *
    generalize qr m.c = C at *
    generalize qr m.d = D at *
    generalize qr b = x at *
    generalize qr c = y at *
    generalize qr d = z at *
    clear q1 q2 hm h hR e p0 p1 p2 p3 ea
    have s1 := sq_nn (x * C - y * B)
    have s2 := sq_nn (x * D - z * B)
    have s3 := sq_nn (y * D - z * C)
    have hu : (x * B + y * C + z * D) * (x * B + y * C + z * D) ≤ (1 / 4) * (A * A) := by
      have e1 : (x * x + y * y + z * z) * (B * B + C * C + D * D) - (x * B + y * C + z * D) * (x * B + y * C + z * D) = (x * C - y * B) * (x * C - y * B) + (x * D - z * B) * (x * D - z * B) + (y * D - z * C) * (y * D - z * C) := by grind
      rw [eq] at e1
      grind
    have e2 : 1 / 2 * A + x * B + y * C + z * D = 1 / 2 * A + (x * B + y * C + z * D) := by grind
    rw [e2]
    generalize x * B + y * C + z * D = u at hu ⊢
    have hn : 0 ≤ 1 / 2 * A + u := by
      rcases Rat.le_total (a := 0) (b := 1 / 2 * A + u) with h | h
      · exact h
      · by_cases he : 1 / 2 * A + u = 0
        · rw [he]; exact Rat.le_refl
        · have k1 : 0 < -(1 / 2 * A + u) := by grind
          have k2 : 0 < 1 / 2 * A - u := by grind
          have k3 := Rat.mul_pos k1 k2
          have e3 : -(1 / 2 * A + u) * (1 / 2 * A - u) = u * u - 1 / 4 * (A * A) := by grind
          rw [e3] at k3
          grind
    exact hn
  have hd := (real_parts q2).2.2
  have hd2 : (0 : Rat) < ((rdG m s).den : Rat) := by
    have : (0 : Int) < (rdG m s).den := by unfold rdG; omega
    exact_mod_cast this
  have := Rat.mul_nonneg hpos (Rat.le_of_lt hd2)
  unfold qr at this
  rw [Rat.div_mul_cancel (by grind)] at this
  exact_mod_cast this
end Go.Proofs.YtodhbkinbcemnaaGreatDoor
