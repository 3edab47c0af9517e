/-
  Interferometers in plain Lean: what their laws say. No program in sight.
-/
import Derived.Test.YtkdggljioekkhaaGreatDoorBc
import Derived.Test.YtkdggljioekkhaaGreatDoorBe
namespace Go.Proofs.YtkdggljioekkhaaGreatDoor
set_option linter.unusedSimpArgs false
set_option linter.unusedVariables false
open Go.RowKit
/-- A fraction times a power of i. -/
def rotK (k : Int) (f : Fr) : Fr := if k = 0 then f else if k = 1 then ⟨-f.im, f.re, f.den⟩ else if k = 2 then ⟨-f.re, -f.im, f.den⟩ else ⟨f.im, -f.re, f.den⟩
theorem gcd3_swap (a b c : Int) : gcd3 b a c = gcd3 a b c := by
  unfold gcd3
  rw [gcdI_comm (absI b) (absI a)]
theorem gcd3_neg1 (a b c : Int) : gcd3 (-a) b c = gcd3 a b c := by simp [gcd3, gcdI, absI]
theorem rotK_valid {f : Fr} (h : fvalid f = true) (k : Int) : fvalid (rotK k f) = true := by
  have b := fvalid_bd f h
  have g := fvalid_gcd f h
  unfold rotK
  split
  · exact h
  · split
    · simp only [fvalid, gcd3_neg1, gcd3_swap f.re f.im f.den, g, Bool.and_eq_true, inB_iff, beq_self_eq_true, and_true]
      omega
    · split
      · simp only [fvalid, gcd3_neg, g, Bool.and_eq_true, inB_iff, beq_self_eq_true, and_true]
        omega
      · simp only [fvalid, gcd3_neg2, gcd3_swap f.re f.im f.den, g, Bool.and_eq_true, inB_iff, beq_self_eq_true, and_true]
        omega
theorem low_selfF {a : Fr} (ha : fvalid a = true) : lowI a.re a.im a.den = some a := by
  have hg := fvalid_gcd a ha
  have hb := fvalid_bd a ha
  unfold lowI
  simp only [hg, Int.tdiv_one, Int.ediv_one]
  rw [if_pos]
  simp only [Bool.and_eq_true, inB_iff, Bool.not_eq_true', decide_eq_false_iff_not]
  exact ⟨⟨hb.1, hb.2.1⟩, by omega⟩
theorem ph_cases {k : Int} (h : inB k 0 3 = true) : k = 0 ∨ k = 1 ∨ k = 2 ∨ k = 3 := by
  rw [inB_iff] at h; omega
theorem times_ph {f : Fr} (h : fvalid f = true) {k : Int} (hk : inB k 0 3 = true) : timesI f (phF k) = some (rotK k f) := by
  have e := low_selfF (rotK_valid h k)
  rcases ph_cases hk with rfl | rfl | rfl | rfl
  · rw [timesI, h, show fvalid (phF 0) = true by decide]
    simpa [rotK, phF] using e
  · rw [timesI, h, show fvalid (phF 1) = true by decide]
    simpa [rotK, phF] using e
  · rw [timesI, h, show fvalid (phF 2) = true by decide]
    simpa [rotK, phF] using e
  · rw [timesI, h, show fvalid (phF 3) = true by decide]
    simpa [rotK, phF] using e
def rotJ (k : Int) (v : Jn) : Jn := ⟨rotK k v.x, rotK k v.y⟩
theorem jtimes_ph {v : Jn} (h : jvalid v = true) {k : Int} (hk : inB k 0 3 = true) : jtimesI v (phF k) = some (rotJ k v) := by
  simp only [jvalid, Bool.and_eq_true] at h
  unfold jtimesI
  rw [times_ph h.1 hk, times_ph h.2 hk]
  rfl
theorem rotK_two {k : Int} (hk : inB k 0 3 = true) (f : Fr) : rotK ((k + 2) % 4) f = rotK 2 (rotK k f) := by
  obtain ⟨a, b, c⟩ := f
  rcases ph_cases hk with rfl | rfl | rfl | rfl <;> simp [rotK]
theorem ph_two {k : Int} (hk : inB k 0 3 = true) : inB ((k + 2) % 4) 0 3 = true := by
  rw [inB_iff] at hk ⊢; omega
theorem less_rot {a b : Fr} (hb : fvalid b = true) : lessI a b = addI a (rotK 2 b) := by
  unfold lessI addI
  rw [rotK_valid hb, hb]
  simp only [rotK, show ¬ (2 : Int) = 0 by omega, show ¬ (2 : Int) = 1 by omega, if_false, if_true]
  rw [Int.neg_mul, Int.neg_mul]
  rfl
theorem rotJ_valid {v : Jn} (h : jvalid v = true) (k : Int) : jvalid (rotJ k v) = true := by
  simp only [jvalid, Bool.and_eq_true] at h ⊢
  exact ⟨rotK_valid h.1 k, rotK_valid h.2 k⟩
theorem jless_rot {x y : Jn} (hy : jvalid y = true) {k : Int} (hk : inB k 0 3 = true) : jlessI x (rotJ k y) = jaddI x (rotJ ((k + 2) % 4) y) := by
  have hv := rotJ_valid hy k
  simp only [jvalid, Bool.and_eq_true] at hv
  unfold jlessI jaddI rotJ
  unfold rotJ at hv
  rw [less_rot hv.1, less_rot hv.2, rotK_two hk, rotK_two hk]
/-- What the program makes of both arms. -/
def portP (x y : Jn) (k : Int) (second : Bool) : Option Jn := (jtimesI y (phF k)).bind fun z => (if second then jlessI x z else jaddI x z).bind fun s => jtimesI s ⟨1, 0, 2⟩
/-- What the reference makes of them. -/
def portS (x y : Jn) (k : Int) (second : Bool) : Option Jn := (jtimesI y (phF (if second then (k + 2) % 4 else k))).bind fun z => (jaddI x z).bind fun s => jtimesI s ⟨1, 0, 2⟩
theorem port_eq {x y : Jn} (hy : jvalid y = true) {k : Int} (hk : inB k 0 3 = true) (second : Bool) : portP x y k second = portS x y k second := by
  unfold portP portS
  rw [jtimes_ph hy hk]
  cases second
  · simp only [Bool.false_eq_true, if_false]
    rw [jtimes_ph hy hk]
  · simp only [if_true]
    rw [jtimes_ph hy (ph_two hk), Option.bind_some, Option.bind_some, jless_rot hy hk]
theorem cq_ph2 {k : Int} (h : inB k 0 3 = true) : qr (phF ((k + 2) % 4)) = -qr (phF k) ∧ qi (phF ((k + 2) % 4)) = -qi (phF k) := by
  rcases ph_cases h with rfl | rfl | rfl | rfl <;> decide +kernel
theorem jtimes_open {v r : Jn} {c : Fr} (e : jtimesI v c = some r) : timesI v.x c = some r.x ∧ timesI v.y c = some r.y := by
  unfold jtimesI at e
  cases hx : timesI v.x c with
  | none => rw [hx] at e; cases e
  | some x =>
    cases hy : timesI v.y c with
    | none => rw [hx, hy] at e; cases e
    | some y =>
      rw [hx, hy] at e
      obtain rfl := Option.some.inj e
      exact ⟨rfl, rfl⟩
theorem jadd_open {v u r : Jn} (e : jaddI v u = some r) : addI v.x u.x = some r.x ∧ addI v.y u.y = some r.y := by
  unfold jaddI at e
  cases hx : addI v.x u.x with
  | none => rw [hx] at e; cases e
  | some x =>
    cases hy : addI v.y u.y with
    | none => rw [hx, hy] at e; cases e
    | some y =>
      rw [hx, hy] at e
      obtain rfl := Option.some.inj e
      exact ⟨rfl, rfl⟩
def phase (k : Int) (second : Bool) : Int := if second then (k + 2) % 4 else k
/-- The numbers at a port. -/
structure PortV (x y o : Jn) (g f : Rat) : Prop where
  x1 : qr o.x = (qr x.x + (qr y.x * g - qi y.x * f)) / 2
  x2 : qi o.x = (qi x.x + (qr y.x * f + qi y.x * g)) / 2
  y1 : qr o.y = (qr x.y + (qr y.y * g - qi y.y * f)) / 2
  y2 : qi o.y = (qi x.y + (qr y.y * f + qi y.y * g)) / 2
theorem portS_val {x y o : Jn} {k : Int} {s : Bool} (h : portS x y k s = some o) : jvalid o = true ∧ PortV x y o (qr (phF (phase k s))) (qi (phF (phase k s))) := by
  unfold portS at h
  rw [show (if s then (k + 2) % 4 else k) = phase k s from rfl] at h
  generalize phF (phase k s) = ph at *
  cases hz : jtimesI y ph with
  | none => rw [hz] at h; cases h
  | some z =>
    rw [hz, Option.bind_some] at h
    cases hs : jaddI x z with
    | none => rw [hs] at h; cases h
    | some u =>
      rw [hs, Option.bind_some] at h
      obtain ⟨z1, z2⟩ := jtimes_open hz
      obtain ⟨u1, u2⟩ := jadd_open hs
      obtain ⟨o1, o2⟩ := jtimes_open h
      obtain ⟨-, a1, a2⟩ := cq_times z1
      obtain ⟨-, a3, a4⟩ := cq_times z2
      obtain ⟨-, b1, b2⟩ := cq_add u1
      obtain ⟨-, b3, b4⟩ := cq_add u2
      obtain ⟨v1, c1, c2⟩ := cq_times o1
      obtain ⟨v2, c3, c4⟩ := cq_times o2
      have h1 : qr ⟨1, 0, 2⟩ = 1 / 2 := by decide +kernel
      have h2 : qi ⟨1, 0, 2⟩ = 0 := by decide +kernel
      rw [h1, h2, b1, b2, a1, a2] at c1 c2
      rw [h1, h2, b3, b4, a3, a4] at c3 c4
      refine ⟨by simp [jvalid, v1, v2], ?_, ?_, ?_, ?_⟩
      · rw [c1]; clear c1 c2 c3 c4; grind
      · rw [c2]; clear c1 c2 c3 c4; grind
      · rw [c3]; clear c1 c2 c3 c4; grind
      · rw [c4]; clear c1 c2 c3 c4; grind
theorem port_open {a b : List UInt8} {k : Int} {v o : Jn} {s : Bool} (h : portI a b k v s = some o) : inB k 0 3 = true ∧ ∃ x y, runI a v = some x ∧ runI b v = some y ∧ portS x y k s = some o := by
  unfold portI at h
  split at h
  · rename_i hk
    refine ⟨hk, ?_⟩
    cases hx : runI a v with
    | none => rw [hx] at h; cases h
    | some x =>
      cases hy : runI b v with
      | none => rw [hx, hy] at h; cases h
      | some y =>
        rw [hx, hy] at h
        exact ⟨x, y, rfl, rfl, h⟩
  · cases h
theorem port_mk {a b : List UInt8} {k : Int} {v x y : Jn} (s : Bool) (hk : inB k 0 3 = true) (hx : runI a v = some x) (hy : runI b v = some y) : portI a b k v s = portS x y k s := by
  unfold portI
  rw [if_pos hk, hx, hy]
  rfl
theorem jn_uniq {a b : Jn} (ha : jvalid a = true) (hb : jvalid b = true) (h1 : qr a.x = qr b.x) (h2 : qi a.x = qi b.x) (h3 : qr a.y = qr b.y) (h4 : qi a.y = qi b.y) : a = b := by
  simp only [jvalid, Bool.and_eq_true] at ha hb
  have e1 := cq_uniq ha.1 hb.1 h1 h2
  have e2 := cq_uniq ha.2 hb.2 h3 h4
  cases a; cases b
  simp only at e1 e2
  rw [e1, e2]
/-- Both ports together are one arm. -/
theorem port_law {a b : List UInt8} {k : Int} {v o x sum : Jn} {s : Bool} (ho : portI a b k v s = some o) (hx : portI a b k v (!s) = some x) (h : jaddI o x = some sum) : runI a v = some sum := by
  obtain ⟨hk, u, w, hu, hw, p1⟩ := port_open ho
  obtain ⟨-, u', w', hu', hw', p2⟩ := port_open hx
  rw [hu] at hu'
  rw [hw] at hw'
  obtain rfl := Option.some.inj hu'
  obtain rfl := Option.some.inj hw'
  obtain ⟨-, q1⟩ := portS_val p1
  obtain ⟨-, q2⟩ := portS_val p2
  obtain ⟨s1, s2⟩ := jadd_open h
  obtain ⟨v1, a1, a2⟩ := cq_add s1
  obtain ⟨v2, a3, a4⟩ := cq_add s2
  obtain ⟨-, vu, -⟩ := run_keep hu
  have hp : qr (phF (phase k (!s))) = -qr (phF (phase k s)) ∧ qi (phF (phase k (!s))) = -qi (phF (phase k s)) := by
    have := cq_ph2 hk
    cases s
    · exact this
    · show qr (phF k) = -qr (phF ((k + 2) % 4)) ∧ qi (phF k) = -qi (phF ((k + 2) % 4))
      rw [this.1, this.2]
      grind
  rw [hp.1, hp.2] at q2
  obtain ⟨c1, c2, c3, c4⟩ := q1
  obtain ⟨d1, d2, d3, d4⟩ := q2
  rw [hu]
  congr 1
  refine jn_uniq vu (by simp [jvalid, v1, v2]) ?_ ?_ ?_ ?_
  · rw [a1, c1, d1]; clear a1 a2 a3 a4 c1 c2 c3 c4 d1 d2 d3 d4 hp; grind
  · rw [a2, c2, d2]; clear a1 a2 a3 a4 c1 c2 c3 c4 d1 d2 d3 d4 hp; grind
  · rw [a3, c3, d3]; clear a1 a2 a3 a4 c1 c2 c3 c4 d1 d2 d3 d4 hp; grind
  · rw [a4, c4, d4]; clear a1 a2 a3 a4 c1 c2 c3 c4 d1 d2 d3 d4 hp; grind
/-- Twice the mixed part of a power. -/
def crossQ (x y : Jn) (g f : Rat) : Rat := qr x.x * (qr y.x * g - qi y.x * f) + qi x.x * (qr y.x * f + qi y.x * g) + (qr x.y * (qr y.y * g - qi y.y * f) + qi x.y * (qr y.y * f + qi y.y * g))
theorem port_power {x y o : Jn} {g f : Rat} (hg : g * g + f * f = 1) (h : PortV x y o g f) : nJ o = (nJ x + nJ y + 2 * crossQ x y g f) / 4 := by
  obtain ⟨h1, h2, h3, h4⟩ := h
  unfold nJ crossQ
  rw [h1, h2, h3, h4]
  generalize qr x.x = a at *
  generalize qi x.x = b at *
  generalize qr x.y = c at *
  generalize qi x.y = d at *
  generalize qr y.x = u at *
  generalize qi y.x = w at *
  generalize qr y.y = r at *
  generalize qi y.y = s at *
  clear h1 h2 h3 h4
  have k1 : (u * g - w * f) * (u * g - w * f) + (u * f + w * g) * (u * f + w * g) = u * u + w * w := by grind
  have k2 : (r * g - s * f) * (r * g - s * f) + (r * f + s * g) * (r * f + s * g) = r * r + s * s := by grind
  generalize u * g - w * f = A at *
  generalize u * f + w * g = B at *
  generalize r * g - s * f = C at *
  generalize r * f + s * g = D at *
  clear hg
  grind
theorem cross_neg (x y : Jn) (g f : Rat) : crossQ x y (-g) (-f) = -crossQ x y g f := by
  unfold crossQ; grind
theorem phase_in {k : Int} (h : inB k 0 3 = true) (s : Bool) : inB (phase k s) 0 3 = true := by
  cases s
  · exact h
  · exact ph_two h
/-- A power at a port. -/
theorem port_jpower {a b : List UInt8} {k : Int} {v o : Jn} {s : Bool} {p : Fr} (ho : portI a b k v s = some o) (hp : jpowerI o = some p) : inB k 0 3 = true ∧ ∃ x y, runI a v = some x ∧ runI b v = some y ∧ realOk p = true ∧ qr p = (nJ x + nJ y + 2 * crossQ x y (qr (phF (phase k s))) (qi (phF (phase k s)))) / 4 := by
  obtain ⟨hk, x, y, hx, hy, h⟩ := port_open ho
  obtain ⟨-, hv⟩ := portS_val h
  obtain ⟨r, q⟩ := cq_jpower hp
  exact ⟨hk, x, y, hx, hy, r, by rw [q, port_power (cq_ph (phase_in hk s)) hv]⟩
theorem powers_open {a b : List UInt8} {k : Int} {v : Jn} {p q : Fr} (h : powersI a b k v = some (p, q)) : ∃ x y, portI a b k v false = some x ∧ portI a b k v true = some y ∧ jpowerI x = some p ∧ jpowerI y = some q := by
  unfold powersI at h
  cases h1 : portI a b k v false with
  | none => rw [h1] at h; cases h
  | some x =>
    cases h2 : portI a b k v true with
    | none => rw [h1, h2] at h; cases h
    | some y =>
      cases h3 : jpowerI x with
      | none => rw [h1, h2] at h; simp only [Option.bind_some, h3] at h; cases h
      | some u =>
        cases h4 : jpowerI y with
        | none => rw [h1, h2] at h; simp only [Option.bind_some, h3, h4] at h; cases h
        | some w =>
          rw [h1, h2] at h
          simp only [Option.bind_some, h3, h4, Option.some.injEq, Prod.mk.injEq] at h
          obtain ⟨rfl, rfl⟩ := h
          exact ⟨x, y, rfl, rfl, h3, h4⟩
/-- Both powers together. -/
theorem powers_val {a b : List UInt8} {k : Int} {v : Jn} {p q : Fr} (h : powersI a b k v = some (p, q)) : inB k 0 3 = true ∧ ∃ x y, runI a v = some x ∧ runI b v = some y ∧ realOk p = true ∧ realOk q = true ∧ qr p + qr q = (nJ x + nJ y) / 2 := by
  obtain ⟨x, y, h1, h2, h3, h4⟩ := powers_open h
  obtain ⟨hk, u, w, hu, hw, r1, q1⟩ := port_jpower h1 h3
  obtain ⟨-, u', w', hu', hw', r2, q2⟩ := port_jpower h2 h4
  rw [hu] at hu'
  rw [hw] at hw'
  obtain rfl := Option.some.inj hu'
  obtain rfl := Option.some.inj hw'
  refine ⟨hk, u, w, hu, hw, r1, r2, ?_⟩
  have e1 : phase k false = k := rfl
  have e2 : phase k true = (k + 2) % 4 := rfl
  rw [q1, q2, e1, e2, (cq_ph2 hk).1, (cq_ph2 hk).2, cross_neg]
  grind
/-- Powers of ports are those of both arms; the other phase exchanges them. -/
theorem powers_law {a b : List UInt8} {k : Int} {v : Jn} {p q : Fr} (h : powersI a b k v = some (p, q)) : ∃ x y, runI a v = some x ∧ runI b v = some y ∧
    (∀ m n arms sum twice, jpowerI x = some m → jpowerI y = some n → addI m n = some arms → addI p q = some sum → addI sum sum = some twice → twice = arms) ∧ powersI a b ((k + 2) % 4) v = some (q, p) := by
  obtain ⟨hk, x, y, hx, hy, rp, rq, e⟩ := powers_val h
  refine ⟨x, y, hx, hy, ?_, ?_⟩
  · intro m n arms sum twice hm hn ha hs ht
    obtain ⟨r1, q1⟩ := cq_jpower hm
    obtain ⟨r2, q2⟩ := cq_jpower hn
    obtain ⟨r3, q3⟩ := q_add r1 r2 ha
    obtain ⟨r4, q4⟩ := q_add rp rq hs
    obtain ⟨r5, q5⟩ := q_add r4 r4 ht
    refine q_uniq r5 r3 ?_
    rw [q5, q4, e, q3, q1, q2]
    grind
  · obtain ⟨u, w, h1, h2, h3, h4⟩ := powers_open h
    have k2 := ph_two hk
    rw [port_mk false hk hx hy] at h1
    rw [port_mk true hk hx hy] at h2
    have e1 : portS x y ((k + 2) % 4) false = some w := h2
    have e2 : portS x y ((k + 2) % 4) true = some u := by
      rw [← h1]
      unfold portS
      have : ((k + 2) % 4 + 2) % 4 = k := by rw [inB_iff] at hk; omega
      simp only [if_true, this, Bool.false_eq_true, if_false]
    unfold powersI
    rw [port_mk false k2 hx hy, port_mk true k2 hx hy, e1, e2]
    simp only [Option.bind_some, h3, h4]
/-- Energy is not made. -/
theorem keeps_law {a b : List UInt8} {k : Int} {v : Jn} {p q s n : Fr} (h : powersI a b k v = some (p, q)) (hs : addI p q = some s) (hn : jpowerI v = some n) : realOk s = true ∧ realOk n = true ∧ cmpV s n ≤ 0 := by
  obtain ⟨hk, x, y, hx, hy, rp, rq, e⟩ := powers_val h
  obtain ⟨r1, q1⟩ := q_add rp rq hs
  obtain ⟨r2, q2⟩ := cq_jpower hn
  refine ⟨r1, r2, ?_⟩
  have h1 := (run_keep hx).2.2
  have h2 := (run_keep hy).2.2
  have h3 := (cmpV_gt r1 r2).1
  by_cases hc : 0 < cmpV s n
  · have := h3 hc
    rw [q1, e, q2] at this
    grind
  · omega
theorem fringe_open {a b : List UInt8} {v : Jn} {k : Int} {f : Fr} (h : fringeI a b v k = some f) : ∃ o, portI a b k v false = some o ∧ jpowerI o = some f := by
  unfold fringeI at h
  cases ho : portI a b k v false with
  | none => rw [ho] at h; cases h
  | some o => rw [ho] at h; exact ⟨o, rfl, h⟩
theorem fringe_val {a b : List UInt8} {v x y : Jn} {k : Int} {f : Fr} (hx : runI a v = some x) (hy : runI b v = some y) (h : fringeI a b v k = some f) : inB k 0 3 = true ∧ realOk f = true ∧ qr f = (nJ x + nJ y + 2 * crossQ x y (qr (phF k)) (qi (phF k))) / 4 ∧ 0 ≤ qr f := by
  obtain ⟨o, h1, h2⟩ := fringe_open h
  obtain ⟨hk, u, w, hu, hw, r1, q1⟩ := port_jpower h1 h2
  rw [hu] at hx
  rw [hw] at hy
  obtain rfl := Option.some.inj hx
  obtain rfl := Option.some.inj hy
  refine ⟨hk, r1, q1, ?_⟩
  rw [(cq_jpower h2).2]
  exact nJ_nn o
theorem allM_four {f : Int → Option Fr} {a b c d : Int} {fs : List Fr} (h : allM f [a, b, c, d] = some fs) : ∃ f0 f1 f2 f3, fs = [f0, f1, f2, f3] ∧ f a = some f0 ∧ f b = some f1 ∧ f c = some f2 ∧ f d = some f3 := by
  obtain ⟨f0, t0, h0, k0, rfl⟩ := allM_cons h
  obtain ⟨f1, t1, h1, k1, rfl⟩ := allM_cons k0
  obtain ⟨f2, t2, h2, k2, rfl⟩ := allM_cons k1
  obtain ⟨f3, t3, h3, k3, rfl⟩ := allM_cons k2
  obtain rfl := Option.some.inj k3
  exact ⟨f0, f1, f2, f3, rfl, h0, h1, h2, h3⟩
theorem fringes_open {a b : List UInt8} {v : Jn} {fs : List Fr} (h : fringesI a b v = some fs) : ∃ f0 f1 f2 f3, fs = [f0, f1, f2, f3] ∧ fringeI a b v 0 = some f0 ∧ fringeI a b v 1 = some f1 ∧ fringeI a b v 2 = some f2 ∧ fringeI a b v 3 = some f3 := allM_four h
theorem fringes_arms {a b : List UInt8} {v : Jn} {k : Int} {f : Fr} (h : fringeI a b v k = some f) : ∃ x y, runI a v = some x ∧ runI b v = some y := by
  obtain ⟨o, h1, h2⟩ := fringe_open h
  obtain ⟨-, x, y, hx, hy, -⟩ := port_open h1
  exact ⟨x, y, hx, hy⟩
theorem fringes_real {a b : List UInt8} {v : Jn} {fs : List Fr} (h : fringesI a b v = some fs) : fs.length = 4 ∧ ∀ f ∈ fs, realOk f = true ∧ 0 ≤ qr f := by
  obtain ⟨f0, f1, f2, f3, rfl, h0, h1, h2, h3⟩ := fringes_open h
  obtain ⟨x, y, hx, hy⟩ := fringes_arms h0
  refine ⟨rfl, fun f hf => ?_⟩
  simp only [List.mem_cons, List.not_mem_nil, or_false] at hf
  rcases hf with rfl | rfl | rfl | rfl
  · exact ⟨(fringe_val hx hy h0).2.1, (fringe_val hx hy h0).2.2.2⟩
  · exact ⟨(fringe_val hx hy h1).2.1, (fringe_val hx hy h1).2.2.2⟩
  · exact ⟨(fringe_val hx hy h2).2.1, (fringe_val hx hy h2).2.2.2⟩
  · exact ⟨(fringe_val hx hy h3).2.1, (fringe_val hx hy h3).2.2.2⟩
theorem ph_q : (qr (phF 0) = 1 ∧ qi (phF 0) = 0) ∧ (qr (phF 1) = 0 ∧ qi (phF 1) = 1) ∧ (qr (phF 2) = -1 ∧ qi (phF 2) = 0) ∧ (qr (phF 3) = 0 ∧ qi (phF 3) = -1) := by decide +kernel
/-- Fringes are even. -/
theorem fringes_law {a b : List UInt8} {v : Jn} {f0 f1 f2 f3 x y : Fr} (h : fringesI a b v = some [f0, f1, f2, f3]) (h1 : addI f0 f2 = some x) (h2 : addI f1 f3 = some y) : x = y := by
  obtain ⟨g0, g1, g2, g3, e, k0, k1, k2, k3⟩ := fringes_open h
  simp only [List.cons.injEq, and_true] at e
  obtain ⟨rfl, rfl, rfl, rfl⟩ := e
  obtain ⟨u, w, hu, hw⟩ := fringes_arms k0
  obtain ⟨-, r0, q0, -⟩ := fringe_val hu hw k0
  obtain ⟨-, r1, q1, -⟩ := fringe_val hu hw k1
  obtain ⟨-, r2, q2, -⟩ := fringe_val hu hw k2
  obtain ⟨-, r3, q3, -⟩ := fringe_val hu hw k3
  obtain ⟨rx, qx⟩ := q_add r0 r2 h1
  obtain ⟨ry, qy⟩ := q_add r1 r3 h2
  refine q_uniq rx ry ?_
  obtain ⟨⟨p1, p2⟩, ⟨p3, p4⟩, ⟨p5, p6⟩, p7, p8⟩ := ph_q
  rw [p1, p2] at q0
  rw [p3, p4] at q1
  rw [p5, p6] at q2
  rw [p7, p8] at q3
  rw [qx, qy, q0, q1, q2, q3]
  unfold crossQ
  clear q0 q1 q2 q3 qx qy
  grind
theorem fringe_powers {a b : List UInt8} {v : Jn} {k : Int} {f p q : Fr} (h : fringeI a b v k = some f) (hp : powersI a b k v = some (p, q)) : p = f := by
  obtain ⟨o, h1, h2⟩ := fringe_open h
  obtain ⟨x, y, k1, -, k3, -⟩ := powers_open hp
  rw [k1] at h1
  obtain rfl := Option.some.inj h1
  rw [k3] at h2
  exact Option.some.inj h2
theorem cross_swap (x y : Jn) (g f : Rat) : crossQ y x g (-f) = crossQ x y g f := by
  unfold crossQ; grind
/-- Whether it is dark at some phase. -/
def darkI (a b : List UInt8) (v : Jn) : Bool := match fringesI a b v with
  | some fs => fs.any (· == ⟨0, 0, 1⟩)
  | none => false
theorem zero_q {f : Fr} (h : realOk f = true) : (f == ⟨0, 0, 1⟩) = true ↔ qr f = 0 := by
  rw [real_zero h, beq_iff_eq, q_zero h]
theorem dark_law {a b : List UInt8} {v : Jn} {gs : List Fr} (h : darkI a b v = true) (hg : fringesI b a v = some gs) : darkI b a v = true := by
  unfold darkI at h ⊢
  rw [hg]
  cases hf : fringesI a b v with
  | none => rw [hf] at h; cases h
  | some fs =>
    rw [hf] at h
    obtain ⟨f0, f1, f2, f3, rfl, k0, k1, k2, k3⟩ := fringes_open hf
    obtain ⟨g0, g1, g2, g3, rfl, l0, l1, l2, l3⟩ := fringes_open hg
    obtain ⟨u, w, hu, hw⟩ := fringes_arms k0
    obtain ⟨-, r0, q0, -⟩ := fringe_val hu hw k0
    obtain ⟨-, r1, q1, -⟩ := fringe_val hu hw k1
    obtain ⟨-, r2, q2, -⟩ := fringe_val hu hw k2
    obtain ⟨-, r3, q3, -⟩ := fringe_val hu hw k3
    obtain ⟨-, t0, s0, -⟩ := fringe_val hw hu l0
    obtain ⟨-, t1, s1, -⟩ := fringe_val hw hu l1
    obtain ⟨-, t2, s2, -⟩ := fringe_val hw hu l2
    obtain ⟨-, t3, s3, -⟩ := fringe_val hw hu l3
    obtain ⟨⟨p1, p2⟩, ⟨p3, p4⟩, ⟨p5, p6⟩, p7, p8⟩ := ph_q
    rw [p1, p2] at q0 s0
    rw [p3, p4] at q1 s1
    rw [p5, p6] at q2 s2
    rw [p7, p8] at q3 s3
    have c0 := cross_swap u w 1 0
    have c1 := cross_swap u w 0 1
    have c2 := cross_swap u w (-1) 0
    have c3 := cross_swap u w 0 (-1)
    have n0 : (-(0 : Rat)) = 0 := by decide +kernel
    have n1 : (-(-1 : Rat)) = 1 := by decide +kernel
    rw [n0] at c0 c2
    rw [n1] at c3
    have e0 : g0 = f0 := q_uniq t0 r0 (by rw [s0, q0, c0]; grind)
    have e1 : g3 = f1 := q_uniq t3 r1 (by rw [s3, q1, c1]; grind)
    have e2 : g2 = f2 := q_uniq t2 r2 (by rw [s2, q2, c2]; grind)
    have e3 : g1 = f3 := q_uniq t1 r3 (by rw [s1, q3, c3]; grind)
    subst e0 e1 e2 e3
    simp only [List.any_cons, List.any_nil, Bool.or_false, Bool.or_eq_true] at h ⊢
    grind
/-- Nothing is brighter. -/
theorem bright_law {a b : List UInt8} {v : Jn} {fs : List Fr} (h : fringesI a b v = some fs) : grt fs 4 ≤ 3 ∧ ∀ j, j < 4 → cmpV (atF fs j) (atF fs (grt fs 4)) ≤ 0 ∧ (cmpV (atF fs j) (atF fs (grt fs 4)) = 0 → grt fs 4 ≤ j) := by
  obtain ⟨hl, hr⟩ := fringes_real h
  have hr' := fun f hf => (hr f hf).1
  have hg := grt_lt fs 4
  refine ⟨by omega, fun j hj => ?_⟩
  obtain ⟨h1, h2⟩ := grt_spec hr' 4 (by omega) j hj
  have a1 := atF_real hr' (k := j) (by omega)
  have a2 := atF_real hr' (k := grt fs 4) (by omega)
  refine ⟨?_, fun e => h2 ((cmpV_eq a1 a2).1 e)⟩
  by_cases hc : 0 < cmpV (atF fs j) (atF fs (grt fs 4))
  · have := (cmpV_gt a1 a2).1 hc
    grind
  · omega
/-- What is seen. -/
def seenI (a b : List UInt8) (v : Jn) : Option Fr := (fringesI a b v).bind fun fs => (lessI (atF fs (grt fs 4)) (atF fs (lst fs 4))).bind fun t => (addI (atF fs (grt fs 4)) (atF fs (lst fs 4))).bind fun s => overI t s
theorem seen_law {a b : List UInt8} {v : Jn} {o : Fr} (h : seenI a b v = some o) : o.im = 0 ∧ 0 ≤ o.re ∧ o.re ≤ o.den ∧ (o == ⟨1, 0, 1⟩) = darkI a b v := by
  unfold seenI at h
  unfold darkI
  cases hf : fringesI a b v with
  | none => rw [hf] at h; cases h
  | some fs =>
    rw [hf, Option.bind_some] at h
    obtain ⟨hl, hr⟩ := fringes_real hf
    have hr' := fun f hf => (hr f hf).1
    have hg := grt_lt fs 4
    have hs := lst_lt fs 4
    have a1 := atF_real hr' (k := grt fs 4) (by omega)
    have a2 := atF_real hr' (k := lst fs 4) (by omega)
    have nn : ∀ j, j < 4 → 0 ≤ qr (atF fs j) := fun j hj => by
      unfold atF
      rw [List.getD_eq_getElem?_getD, List.getElem?_eq_getElem (by omega)]
      exact (hr _ (List.getElem_mem _)).2
    have hmax := fun j hj => (grt_spec hr' 4 (by omega) j hj).1
    have hmin := fun j hj => lst_spec hr' 4 (by omega) j hj
    cases ht : lessI (atF fs (grt fs 4)) (atF fs (lst fs 4)) with
    | none => rw [ht] at h; cases h
    | some t =>
      rw [ht, Option.bind_some] at h
      cases hS : addI (atF fs (grt fs 4)) (atF fs (lst fs 4)) with
      | none => rw [hS] at h; cases h
      | some s =>
        rw [hS, Option.bind_some] at h
        obtain ⟨rt, qt⟩ := q_less a1 a2 ht
        obtain ⟨rs, qs⟩ := q_add a1 a2 hS
        obtain ⟨ro, ns, e⟩ := q_over rt rs h
        have k1 := hmax (lst fs 4) (by omega)
        have k2 := nn (lst fs 4) (by omega)
        have k3 := nn (grt fs 4) (by omega)
        rw [qt, qs] at e
        rw [qs] at ns
        have od := q_pos (real_parts ro).2.2
        have om := qr_mul ro
        have hany : fs.any (· == ⟨0, 0, 1⟩) = true ↔ qr (atF fs (lst fs 4)) = 0 := by
          rw [List.any_eq_true]
          constructor
          · rintro ⟨f, hf1, hf2⟩
            have hz := (zero_q (hr' f hf1)).1 hf2
            obtain ⟨j, hj, rfl⟩ := List.getElem_of_mem hf1
            have := hmin j (by omega)
            unfold atF at this k2 ⊢
            rw [show fs.getD j ⟨0, 0, 0⟩ = fs[j] by rw [List.getD_eq_getElem?_getD, List.getElem?_eq_getElem hj]; rfl] at this
            grind
          · intro hz
            refine ⟨atF fs (lst fs 4), ?_, (zero_q a2).2 hz⟩
            unfold atF
            rw [List.getD_eq_getElem?_getD, List.getElem?_eq_getElem (by omega)]
            exact List.getElem_mem _
        have one1 : (o == ⟨1, 0, 1⟩) = true ↔ qr o = 1 := by
          constructor
          · intro h1
            rw [eq_of_beq h1]
            decide +kernel
          · intro h1
            have : o = ⟨1, 0, 1⟩ := q_uniq ro (by decide) (by rw [h1]; decide +kernel)
            rw [this]; decide
        generalize qr (atF fs (grt fs 4)) = H at *
        generalize qr (atF fs (lst fs 4)) = L at *
        have hp : 0 < H + L := by grind
        have b1 : 0 ≤ qr o := by
          by_cases hc : 0 ≤ qr o
          · exact hc
          · have := Rat.mul_pos (show 0 < -qr o by grind) hp
            grind
        have b2 : qr o ≤ 1 := by
          by_cases hc : qr o ≤ 1
          · exact hc
          · have := Rat.mul_pos (show 0 < qr o - 1 by grind) hp
            grind
        refine ⟨(real_parts ro).2.1, ?_, ?_, ?_⟩
        · have : (0 : Rat) ≤ (o.re : Rat) := by
            rw [← om]
            exact Rat.mul_nonneg b1 (Rat.le_of_lt od)
          exact Rat.intCast_le_intCast.1 (by simpa using this)
        · refine Rat.intCast_le_intCast.1 ?_
          rw [← om]
          have := Rat.mul_nonneg (show 0 ≤ 1 - qr o by grind) (Rat.le_of_lt od)
          grind
        · rw [Bool.eq_iff_iff, one1]
          show _ ↔ fs.any (· == ⟨0, 0, 1⟩) = true
          rw [hany]
          constructor
          · intro h1; rw [h1] at e; grind
          · intro h1
            rw [h1] at e hp
            have : (qr o - 1) * H = 0 := by grind
            rcases Rat.mul_eq_zero.1 this with h2 | h2
            · grind
            · grind
end Go.Proofs.YtkdggljioekkhaaGreatDoor
