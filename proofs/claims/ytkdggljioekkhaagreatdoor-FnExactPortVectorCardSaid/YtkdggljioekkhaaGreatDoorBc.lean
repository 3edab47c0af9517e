/-
  Benches at work on vectors, and interferometers: plain definitions; what they do to the power. No program in sight.
-/
import Derived.Test.YtkdggljioekkhaaGreatDoorBb
import Derived.Test.YtkdggljioekkhaaGreatDoorJb
import Derived.Test.YtkdggljioekkhaaGreatDoorPs
namespace Go.Proofs.YtkdggljioekkhaaGreatDoor
set_option linter.unusedSimpArgs false
set_option linter.unusedVariables false
open Go.RowKit
theorem le_eqR {a b : Rat} (h : a = b) : a ≤ b := by rw [h]; exact Rat.le_refl
theorem sq_nnR (x : Rat) : 0 ≤ x * x := by
  by_cases h : 0 ≤ x
  · exact Rat.mul_nonneg h h
  · have h2 : 0 ≤ -x := by grind
    have := Rat.mul_nonneg h2 h2
    grind
/-- A share, as a fraction. -/
def shareF (p q : Int) : Fr := (lowI p 0 q).getD ⟨0, 0, 0⟩
def filtI (p q : Int) : Option Mt := if dirOk p q then m4 (timesI (dirC p q) (dirC p q)) (timesI (dirC p q) (dirS p q)) (timesI (dirC p q) (dirS p q)) (timesI (dirS p q) (dirS p q)) else none
/-- The matrix of a piece. -/
def pcMat (x : Pc) : Option Mt := match x.ns with
  | [p, q] => if x.k = 114 then rotI p q else if x.k = 102 then filtI p q else if x.k = 97 then some (diagM (shareF p q) (shareF p q)) else none
  | [p, q, n] => if x.k = 119 then plateI p q n else none
  | _ => none
def runStep (o : Option Jn) (x : Pc) : Option Jn := o.bind fun v => (pcMat x).bind fun m => mapplyI m v
def runL (ps : List Pc) (v : Jn) : Option Jn := ps.foldl runStep (some v)
/-- Light behind a bench. -/
def runI (l : List UInt8) (v : Jn) : Option Jn := (benchI l).bind fun ps => if jvalid v then runL ps v else none
/-- A vector at a port. -/
def portI (a b : List UInt8) (k : Int) (v : Jn) (second : Bool) : Option Jn :=
  if inB k 0 3 then (runI a v).bind fun x => (runI b v).bind fun y => (jtimesI y (phF (if second then (k + 2) % 4 else k))).bind fun z => (jaddI x z).bind fun s => jtimesI s ⟨1, 0, 2⟩ else none
def powersI (a b : List UInt8) (k : Int) (v : Jn) : Option (Fr × Fr) := (portI a b k v false).bind fun x => (portI a b k v true).bind fun y => (jpowerI x).bind fun p => (jpowerI y).bind fun q => some (p, q)
def fringeI (a b : List UInt8) (v : Jn) (k : Int) : Option Fr := (portI a b k v false).bind jpowerI
def fringesI (a b : List UInt8) (v : Jn) : Option (List Fr) := allM (fringeI a b v) [0, 1, 2, 3]
/-- What a vector's power stands for. -/
def nJ (v : Jn) : Rat := qr v.x * qr v.x + qi v.x * qi v.x + (qr v.y * qr v.y + qi v.y * qi v.y)
theorem nJ_nn (v : Jn) : 0 ≤ nJ v := by
  have h1 := sq_nnR (qr v.x)
  have h2 := sq_nnR (qi v.x)
  have h3 := sq_nnR (qr v.y)
  have h4 := sq_nnR (qi v.y)
  unfold nJ
  grind
theorem cq_power {a h : Fr} (e : powerI a = some h) : realOk h = true ∧ qr h = qr a * qr a + qi a * qi a := by
  unfold powerI at e
  split at e
  · rename_i hv
    have da := (fvalid_bd a hv).2.2.1
    obtain ⟨v, h1, h2⟩ := cq_low (dens_pos da da) e
    have na := q_ne da
    have hr : realOk h = true := low_real (dens_pos da da) e
    refine ⟨hr, ?_⟩
    rw [h1]; unfold qr qi
    simp only [Rat.intCast_mul, Rat.intCast_add]
    clear h1 h2 e hv
    grind
  · cases e
theorem jpower_open {v : Jn} {f : Fr} (e : jpowerI v = some f) : jvalid v = true ∧ ∃ x y, powerI v.x = some x ∧ powerI v.y = some y ∧ addI x y = some f := by
  unfold jpowerI at e
  split at e
  · rename_i hv
    refine ⟨hv, ?_⟩
    cases hx : powerI v.x with
    | none => rw [hx] at e; cases e
    | some x =>
      cases hy : powerI v.y with
      | none => rw [hx, hy] at e; cases e
      | some y =>
        rw [hx, hy] at e
        exact ⟨x, y, rfl, rfl, e⟩
  · cases e
theorem cq_jpower {v : Jn} {f : Fr} (e : jpowerI v = some f) : realOk f = true ∧ qr f = nJ v := by
  obtain ⟨-, x, y, hx, hy, ha⟩ := jpower_open e
  obtain ⟨rx, qx⟩ := cq_power hx
  obtain ⟨ry, qy⟩ := cq_power hy
  obtain ⟨r, q⟩ := q_add rx ry ha
  exact ⟨r, by rw [q, qx, qy]; rfl⟩
theorem cq_inner {a b c d h : Fr} (e : innerI a b c d = some h) : fvalid h = true ∧ qr h = (qr a * qr b - qi a * qi b) + (qr c * qr d - qi c * qi d) ∧ qi h = (qr a * qi b + qi a * qr b) + (qr c * qi d + qi c * qr d) := by
  unfold innerI at e
  cases hx : timesI a b with
  | none => rw [hx] at e; cases e
  | some x =>
    cases hy : timesI c d with
    | none => rw [hx, hy] at e; cases e
    | some y =>
      rw [hx, hy] at e
      obtain ⟨-, x1, x2⟩ := cq_times hx
      obtain ⟨-, y1, y2⟩ := cq_times hy
      obtain ⟨v, h1, h2⟩ := cq_add e
      exact ⟨v, by rw [h1, x1, y1], by rw [h2, x2, y2]⟩
theorem mapply_open {m : Mt} {v r : Jn} (e : mapplyI m v = some r) : mvalid m = true ∧ jvalid v = true ∧ innerI m.a v.x m.b v.y = some r.x ∧ innerI m.c v.x m.d v.y = some r.y := by
  unfold mapplyI at e
  split at e
  · rename_i hv
    simp only [Bool.and_eq_true] at hv
    refine ⟨hv.1, hv.2, ?_⟩
    cases hx : innerI m.a v.x m.b v.y with
    | none => rw [hx] at e; cases e
    | some x =>
      cases hy : innerI m.c v.x m.d v.y with
      | none => rw [hx, hy] at e; cases e
      | some y =>
        rw [hx, hy] at e
        obtain rfl := Option.some.inj e
        exact ⟨rfl, rfl⟩
  · cases e
theorem mtimes_open {m n r : Mt} (e : mtimesI m n = some r) : innerI m.a n.a m.b n.c = some r.a ∧ innerI m.a n.b m.b n.d = some r.b ∧ innerI m.c n.a m.d n.c = some r.c ∧ innerI m.c n.b m.d n.d = some r.d := by
  unfold mtimesI at e
  split at e
  · cases h1 : innerI m.a n.a m.b n.c with
    | none => rw [h1] at e; cases e
    | some x1 =>
      cases h2 : innerI m.a n.b m.b n.d with
      | none => rw [h1, h2] at e; cases e
      | some x2 =>
        cases h3 : innerI m.c n.a m.d n.c with
        | none => rw [h1, h2, h3] at e; cases e
        | some x3 =>
          cases h4 : innerI m.c n.b m.d n.d with
          | none => rw [h1, h2, h3, h4] at e; cases e
          | some x4 =>
            rw [h1, h2, h3, h4] at e
            obtain rfl := Option.some.inj e
            exact ⟨rfl, rfl, rfl, rfl⟩
  · cases e
theorem m4_open {a b c d : Option Fr} {r : Mt} (e : m4 a b c d = some r) : a = some r.a ∧ b = some r.b ∧ c = some r.c ∧ d = some r.d := by
  cases a with
  | none => cases e
  | some a =>
    cases b with
    | none => cases e
    | some b =>
      cases c with
      | none => cases e
      | some c =>
        cases d with
        | none => cases e
        | some d =>
          obtain rfl := Option.some.inj e
          exact ⟨rfl, rfl, rfl, rfl⟩
/-- A direction's two numbers. -/
theorem cq_dir {p q : Int} (h : dirOk p q = true) : qi (dirC p q) = 0 ∧ qi (dirS p q) = 0 ∧ qr (dirC p q) * qr (dirC p q) + qr (dirS p q) * qr (dirS p q) = 1 := by
  obtain ⟨h1, h2⟩ := rep_c h
  obtain ⟨b1, -⟩ := dir_bd p q h
  have n := q_ne b1.1
  have c1 : qr (dirC p q) = ((p * p - q * q : Int) : Rat) / ((p * p + q * q : Int) : Rat) := q_cross h1.bd.1 h1.pos h1.re
  have c2 : qi (dirC p q) = ((0 : Int) : Rat) / ((p * p + q * q : Int) : Rat) := q_cross h1.bd.1 h1.pos h1.im
  have s1 : qr (dirS p q) = ((2 * p * q : Int) : Rat) / ((p * p + q * q : Int) : Rat) := q_cross h2.bd.1 h2.pos h2.re
  have s2 : qi (dirS p q) = ((0 : Int) : Rat) / ((p * p + q * q : Int) : Rat) := q_cross h2.bd.1 h2.pos h2.im
  have z : ((0 : Int) : Rat) / ((p * p + q * q : Int) : Rat) = 0 := by simp [Rat.div_def]
  refine ⟨by rw [c2, z], by rw [s2, z], ?_⟩
  rw [c1, s1]
  simp only [Rat.intCast_mul, Rat.intCast_add, Rat.intCast_sub] at n ⊢
  generalize (p : Rat) = P at *
  generalize (q : Rat) = Q at *
  clear c1 c2 s1 s2 z h1 h2 b1 h
  have e : (((2 : Int) : Rat)) = 2 := rfl
  rw [e]
  grind
/-- A phase's two numbers. -/
theorem cq_ph {k : Int} (h : inB k 0 3 = true) : qr (phF k) * qr (phF k) + qi (phF k) * qi (phF k) = 1 := by
  rw [inB_iff] at h
  have : k = 0 ∨ k = 1 ∨ k = 2 ∨ k = 3 := by omega
  rcases this with rfl | rfl | rfl | rfl <;> decide +kernel
theorem q_neg (f : Fr) (h : fvalid f = true) : qr ⟨-f.re, -f.im, f.den⟩ = -qr f ∧ qi ⟨-f.re, -f.im, f.den⟩ = -qi f := ⟨q_div_neg _ _, q_div_neg _ _⟩
/-- A rotation keeps the power. -/
theorem keep_rot {p q : Int} {v r : Jn} (h : dirOk p q = true) (e : mapplyI (rotM p q) v = some r) : nJ r = nJ v := by
  obtain ⟨-, -, ex, ey⟩ := mapply_open e
  obtain ⟨c0, s0, cs⟩ := cq_dir h
  obtain ⟨-, x1, x2⟩ := cq_inner ex
  obtain ⟨-, y1, y2⟩ := cq_inner ey
  obtain ⟨n1, n2⟩ := q_neg (dirS p q) (rep_c h).2.ok
  simp only [rotM, n1, n2, c0, s0] at x1 x2 y1 y2
  unfold nJ
  rw [x1, x2, y1, y2]
  generalize qr (dirC p q) = c at *
  generalize qr (dirS p q) = s at *
  generalize qr v.x = a at *
  generalize qi v.x = b at *
  generalize qr v.y = u at *
  generalize qi v.y = w at *
  clear x1 x2 y1 y2 n1 n2 ex ey e h
  grind
/-- A filter takes power. -/
theorem keep_filt {p q : Int} {m : Mt} {v r : Jn} (h : filtI p q = some m) (e : mapplyI m v = some r) : nJ r ≤ nJ v := by
  unfold filtI at h
  split at h
  · rename_i hd
    obtain ⟨c0, s0, cs⟩ := cq_dir hd
    obtain ⟨ma, mb, mc, md⟩ := m4_open h
    obtain ⟨-, ex1, ey1⟩ := mapply_open e
    obtain ⟨ex, ey⟩ := ey1
    obtain ⟨-, a1, a2⟩ := cq_times ma
    obtain ⟨-, b1, b2⟩ := cq_times mb
    obtain ⟨-, g1, g2⟩ := cq_times mc
    obtain ⟨-, d1, d2⟩ := cq_times md
    obtain ⟨-, x1, x2⟩ := cq_inner ex
    obtain ⟨-, y1, y2⟩ := cq_inner ey
    rw [a1, a2, b1, b2] at x1 x2
    rw [g1, g2, d1, d2] at y1 y2
    rw [c0, s0] at x1 x2 y1 y2
    unfold nJ
    rw [x1, x2, y1, y2]
    generalize qr (dirC p q) = c at *
    generalize qr (dirS p q) = s at *
    generalize qr v.x = a at *
    generalize qi v.x = b at *
    generalize qr v.y = u at *
    generalize qi v.y = w at *
    clear x1 x2 y1 y2 a1 a2 b1 b2 g1 g2 d1 d2 ma mb mc md ex ey e h ex1
    have k1 := sq_nnR (s * a - c * u)
    have k2 := sq_nnR (s * b - c * w)
    have e1 : (c * c * a - 0 * b + (c * s * u - 0 * w)) = c * (c * a + s * u) := by grind
    have e2 : (c * c * b + 0 * a + (c * s * w + 0 * u)) = c * (c * b + s * w) := by grind
    have e3 : (c * s * a - 0 * b + (s * s * u - 0 * w)) = s * (c * a + s * u) := by grind
    have e4 : (c * s * b + 0 * a + (s * s * w + 0 * u)) = s * (c * b + s * w) := by grind
    have id1 : (c * (c * a + s * u)) * (c * (c * a + s * u)) + (s * (c * a + s * u)) * (s * (c * a + s * u)) + (s * a - c * u) * (s * a - c * u) = a * a + u * u := by grind
    have id2 : (c * (c * b + s * w)) * (c * (c * b + s * w)) + (s * (c * b + s * w)) * (s * (c * b + s * w)) + (s * b - c * w) * (s * b - c * w) = b * b + w * w := by grind
    grind
  · cases h
/-- A plate keeps the power. -/
theorem keep_plate {p q k : Int} {m : Mt} {v r : Jn} (h : plateI p q k = some m) (e : mapplyI m v = some r) : nJ r = nJ v := by
  unfold plateI at h
  split at h
  · rename_i hc
    simp only [Bool.and_eq_true] at hc
    obtain ⟨hd, hk⟩ := hc
    cases hA : mtimesI (rotM p q) (diagM (phF 0) (phF k)) with
    | none => rw [hA] at h; cases h
    | some A =>
      rw [hA, Option.bind_some] at h
      obtain ⟨a1, a2, a3, a4⟩ := mtimes_open hA
      rw [adj_eq hd] at h
      obtain ⟨b1, b2, b3, b4⟩ := mtimes_open h
      obtain ⟨-, -, ex, ey⟩ := mapply_open e
      obtain ⟨c0, s0, cs⟩ := cq_dir hd
      have gh := cq_ph hk
      obtain ⟨n1, n2⟩ := q_neg (dirS p q) (rep_c hd).2.ok
      have z1 : qr ⟨0, 0, 1⟩ = 0 := by decide +kernel
      have z2 : qi ⟨0, 0, 1⟩ = 0 := by decide +kernel
      have o1 : qr (phF 0) = 1 := by decide +kernel
      have o2 : qi (phF 0) = 0 := by decide +kernel
      have m1 : ∀ f : Fr, qr ⟨f.re, -f.im, f.den⟩ = qr f := fun _ => rfl
      have m2 : ∀ f : Fr, qi ⟨f.re, -f.im, f.den⟩ = -qi f := fun _ => q_div_neg _ _
      have m3 : ∀ f : Fr, qr ⟨-f.re, - -f.im, f.den⟩ = -qr f := fun _ => q_div_neg _ _
      have m4' : ∀ f : Fr, qi ⟨-f.re, - -f.im, f.den⟩ = qi f := fun f => by
        show ((- -f.im : Int) : Rat) / (f.den : Rat) = _
        rw [Int.neg_neg]; rfl
      obtain ⟨-, p1, p2⟩ := cq_inner a1
      obtain ⟨-, p3, p4⟩ := cq_inner a2
      obtain ⟨-, p5, p6⟩ := cq_inner a3
      obtain ⟨-, p7, p8⟩ := cq_inner a4
      obtain ⟨-, r1, r2⟩ := cq_inner b1
      obtain ⟨-, r3, r4⟩ := cq_inner b2
      obtain ⟨-, r5, r6⟩ := cq_inner b3
      obtain ⟨-, r7, r8⟩ := cq_inner b4
      obtain ⟨-, x1, x2⟩ := cq_inner ex
      obtain ⟨-, y1, y2⟩ := cq_inner ey
      simp only [rotM, diagM, n1, n2, z1, z2, o1, o2, c0, s0] at p1 p2 p3 p4 p5 p6 p7 p8
      simp only [m1, m2, m3, m4', c0, s0] at r1 r2 r3 r4 r5 r6 r7 r8
      unfold nJ
      generalize qr (dirC p q) = c at *
      generalize qr (dirS p q) = s at *
      generalize qr (phF k) = g at *
      generalize qi (phF k) = f at *
      generalize qr v.x = a at *
      generalize qi v.x = b at *
      generalize qr v.y = u at *
      generalize qi v.y = w at *
      clear n1 n2 m1 m2 m3 m4' z1 z2 o1 o2 a1 a2 a3 a4 b1 b2 b3 b4 ex ey e h hA hd hk
      have q1 : qr A.a = c := by rw [p1]; grind
      have q2 : qi A.a = 0 := by rw [p2]; grind
      have q3 : qr A.b = -(s * g) := by rw [p3]; grind
      have q4 : qi A.b = -(s * f) := by rw [p4]; grind
      have q5 : qr A.c = s := by rw [p5]; grind
      have q6 : qi A.c = 0 := by rw [p6]; grind
      have q7 : qr A.d = c * g := by rw [p7]; grind
      have q8 : qi A.d = c * f := by rw [p8]; grind
      rw [q1, q2, q3, q4] at r1 r2 r3 r4
      rw [q5, q6, q7, q8] at r5 r6 r7 r8
      clear p1 p2 p3 p4 p5 p6 p7 p8 q1 q2 q3 q4 q5 q6 q7 q8
      have e1 : qr r.x = c * (c * a + s * u) - s * (g * (c * u - s * a) - f * (c * w - s * b)) := by rw [x1, r1, r2, r3, r4]; clear x1 x2 y1 y2 r1 r2 r3 r4 r5 r6 r7 r8 gh cs; grind
      have e2 : qi r.x = c * (c * b + s * w) - s * (g * (c * w - s * b) + f * (c * u - s * a)) := by rw [x2, r1, r2, r3, r4]; clear x1 x2 y1 y2 r1 r2 r3 r4 r5 r6 r7 r8 gh cs e1; grind
      have e3 : qr r.y = s * (c * a + s * u) + c * (g * (c * u - s * a) - f * (c * w - s * b)) := by rw [y1, r5, r6, r7, r8]; clear x1 x2 y1 y2 r1 r2 r3 r4 r5 r6 r7 r8 gh cs e1 e2; grind
      have e4 : qi r.y = s * (c * b + s * w) + c * (g * (c * w - s * b) + f * (c * u - s * a)) := by rw [y2, r5, r6, r7, r8]; clear x1 x2 y1 y2 r1 r2 r3 r4 r5 r6 r7 r8 gh cs e1 e2 e3; grind
      rw [e1, e2, e3, e4]
      clear x1 x2 y1 y2 r1 r2 r3 r4 r5 r6 r7 r8 e1 e2 e3 e4
      have k1 : ∀ P Q : Rat, (c * P - s * Q) * (c * P - s * Q) + (s * P + c * Q) * (s * P + c * Q) = P * P + Q * Q := by intro P Q; grind
      have k2 : ∀ P Q : Rat, (g * P - f * Q) * (g * P - f * Q) + (g * Q + f * P) * (g * Q + f * P) = P * P + Q * Q := by intro P Q; grind
      have k3 : ∀ P Q : Rat, (c * P + s * Q) * (c * P + s * Q) + (c * Q - s * P) * (c * Q - s * P) = P * P + Q * Q := by intro P Q; grind
      have i1 := k1 (c * a + s * u) (g * (c * u - s * a) - f * (c * w - s * b))
      have i2 := k1 (c * b + s * w) (g * (c * w - s * b) + f * (c * u - s * a))
      have i3 := k2 (c * u - s * a) (c * w - s * b)
      have i4 := k3 a u
      have i5 := k3 b w
      generalize c * (c * a + s * u) - s * (g * (c * u - s * a) - f * (c * w - s * b)) = X1 at *
      generalize c * (c * b + s * w) - s * (g * (c * w - s * b) + f * (c * u - s * a)) = X2 at *
      generalize s * (c * a + s * u) + c * (g * (c * u - s * a) - f * (c * w - s * b)) = X3 at *
      generalize s * (c * b + s * w) + c * (g * (c * w - s * b) + f * (c * u - s * a)) = X4 at *
      generalize g * (c * u - s * a) - f * (c * w - s * b) = X5 at *
      generalize g * (c * w - s * b) + f * (c * u - s * a) = X6 at *
      generalize c * a + s * u = X7 at *
      generalize c * b + s * w = X8 at *
      generalize c * u - s * a = X9 at *
      generalize c * w - s * b = X0 at *
      clear k1 k2 k3 cs gh
      grind
  · cases h
/-- A share stands for a number from 0 to 1. -/
theorem cq_share {p q : Int} (h1 : 1 ≤ q) (h2 : q ≤ 100) (h3 : 0 ≤ p) (h4 : p ≤ q) : fvalid (shareF p q) = true ∧ qi (shareF p q) = 0 ∧ 0 ≤ qr (shareF p q) ∧ qr (shareF p q) ≤ 1 := by
  obtain ⟨f, e, hf⟩ := lowI_small p 0 q h1 (by omega) (by omega) (by omega)
  have he : shareF p q = f := by unfold shareF; rw [e]; rfl
  rw [he]
  have c1 : qr f = (p : Rat) / (q : Rat) := q_cross hf.bd.1 hf.pos hf.re
  have c2 : qi f = ((0 : Int) : Rat) / (q : Rat) := q_cross hf.bd.1 hf.pos hf.im
  have n := q_ne h1
  have a1 : (0 : Rat) ≤ (p : Rat) := by have := Rat.intCast_le_intCast.2 h3; simpa using this
  have a2 : (p : Rat) ≤ (q : Rat) := Rat.intCast_le_intCast.2 h4
  have a3 : (0 : Rat) < (q : Rat) := by have := Rat.intCast_lt_intCast.2 (show (0 : Int) < q by omega); simpa using this
  refine ⟨hf.ok, by rw [c2]; simp [Rat.div_def], ?_, ?_⟩
  · rw [c1, Rat.div_def]
    exact Rat.mul_nonneg a1 (Rat.le_of_lt (Rat.inv_pos.2 a3))
  · rw [c1, Rat.div_def]
    have := Rat.mul_nonneg (show (0 : Rat) ≤ (q : Rat) - (p : Rat) by grind) (Rat.le_of_lt (Rat.inv_pos.2 a3))
    have h5 : (q : Rat) * (q : Rat)⁻¹ = 1 := Rat.mul_inv_cancel _ n
    grind
theorem keep_att {p q : Int} {v r : Jn} (h1 : 1 ≤ q) (h2 : q ≤ 100) (h3 : 0 ≤ p) (h4 : p ≤ q) (e : mapplyI (diagM (shareF p q) (shareF p q)) v = some r) : nJ r ≤ nJ v := by
  obtain ⟨-, s0, s1, s2⟩ := cq_share h1 h2 h3 h4
  obtain ⟨-, -, ex, ey⟩ := mapply_open e
  obtain ⟨-, x1, x2⟩ := cq_inner ex
  obtain ⟨-, y1, y2⟩ := cq_inner ey
  have z1 : qr ⟨0, 0, 1⟩ = 0 := by decide +kernel
  have z2 : qi ⟨0, 0, 1⟩ = 0 := by decide +kernel
  simp only [diagM, z1, z2, s0] at x1 x2 y1 y2
  have hn := nJ_nn v
  have e1 : nJ r = qr (shareF p q) * qr (shareF p q) * nJ v := by
    unfold nJ
    rw [x1, x2, y1, y2]
    generalize qr (shareF p q) = c at *
    generalize qr v.x = a at *
    generalize qi v.x = b at *
    generalize qr v.y = u at *
    generalize qi v.y = w at *
    clear x1 x2 y1 y2 ex ey e hn s1 s2
    grind
  rw [e1]
  generalize qr (shareF p q) = c at *
  generalize nJ v = N at *
  have k1 := Rat.mul_nonneg (Rat.mul_nonneg s1 (show (0 : Rat) ≤ 1 - c by grind)) hn
  have k2 := Rat.mul_nonneg (show (0 : Rat) ≤ 1 - c by grind) hn
  clear e1 x1 x2 y1 y2 ex ey e
  grind
/-- No piece makes power. -/
theorem keep_piece {x : Pc} {m : Mt} {v r : Jn} (ho : pcOk x.k x.ns = true) (h : pcMat x = some m) (e : mapplyI m v = some r) : nJ r ≤ nJ v := by
  obtain ⟨k, ns⟩ := x
  match ns, ho, h with
  | [], ho, h => cases ho
  | [_], ho, h => cases ho
  | [p, q], ho, h =>
    simp only [pcMat] at h
    by_cases h1 : k = 114
    · rw [if_pos h1] at h
      unfold rotI at h
      split at h
      · rename_i hd
        obtain rfl := Option.some.inj h
        exact le_eqR (keep_rot hd e)
      · cases h
    · rw [if_neg h1] at h
      by_cases h2 : k = 102
      · rw [if_pos h2] at h
        exact keep_filt h e
      · rw [if_neg h2] at h
        by_cases h3 : k = 97
        · rw [if_pos h3] at h
          obtain rfl := Option.some.inj h
          have hz : pcOk k [p, q] = (inB q 1 100 && inB p 0 q) := by
            show (if k = 114 ∨ k = 102 then dirOk p q else if k = 97 ∨ k = 100 then inB q 1 100 && inB p 0 q else false) = _
            rw [if_neg (fun hh => hh.elim h1 h2), if_pos (.inl h3)]
          have ho2 : pcOk k [p, q] = true := ho
          rw [hz] at ho2
          simp only [Bool.and_eq_true, inB_iff] at ho2
          exact keep_att ho2.1.1 ho2.1.2 ho2.2.1 ho2.2.2 e
        · rw [if_neg h3] at h; cases h
  | [p, q, n], ho, h =>
    simp only [pcMat] at h
    split at h
    · exact le_eqR (keep_plate h e)
    · cases h
  | _ :: _ :: _ :: _ :: _, ho, h => cases ho
theorem pieceI_ok {l : List UInt8} {x : Pc} (h : pieceI l = some x) : pcOk x.k x.ns = true := by
  cases l with
  | nil => cases h
  | cons c r =>
    rw [pieceI] at h
    cases hI : allM numI (cutL 58 r) with
    | none => rw [hI] at h; cases h
    | some ns =>
      rw [hI, Option.bind_some] at h
      split at h
      · rename_i hp
        obtain rfl := Option.some.inj h
        exact hp
      · cases h
theorem pieces_ok : ∀ {ws : List (List UInt8)} {ps : List Pc}, allM pieceI ws = some ps → ∀ x ∈ ps, pcOk x.k x.ns = true
  | [], ps, h, x, hx => by obtain rfl := Option.some.inj h; cases hx
  | w :: ws, ps, h, x, hx => by
    obtain ⟨y, zs, h1, h2, rfl⟩ := allM_cons h
    rcases List.mem_cons.1 hx with rfl | hx
    · exact pieceI_ok h1
    · exact pieces_ok h2 x hx
theorem benchI_ok {l : List UInt8} {ps : List Pc} (h : benchI l = some ps) : ps.length ≤ 12 ∧ ∀ x ∈ ps, pcOk x.k x.ns = true := by
  unfold benchI at h
  split at h
  · obtain rfl := Option.some.inj h
    exact ⟨by simp, by simp⟩
  · cases hp : allM pieceI (cutL 32 l) with
    | none => rw [hp] at h; cases h
    | some qs =>
      rw [hp, Option.bind_some] at h
      split at h
      · rename_i hl
        obtain rfl := Option.some.inj h
        exact ⟨hl, pieces_ok hp⟩
      · cases h
theorem runL_none : ∀ ps : List Pc, ps.foldl runStep none = none
  | [] => rfl
  | x :: ps => runL_none ps
theorem runL_cons {x : Pc} {ps : List Pc} {v r : Jn} (h : runL (x :: ps) v = some r) : ∃ m u, pcMat x = some m ∧ mapplyI m v = some u ∧ runL ps u = some r := by
  unfold runL at h
  rw [List.foldl_cons] at h
  unfold runStep at h
  rw [Option.bind_some] at h
  cases hm : pcMat x with
  | none => rw [hm] at h; exact absurd ((runL_none ps).symm.trans h) (by simp)
  | some m =>
    rw [hm, Option.bind_some] at h
    cases hu : mapplyI m v with
    | none => rw [hu] at h; exact absurd ((runL_none ps).symm.trans h) (by simp)
    | some u =>
      rw [hu] at h
      exact ⟨m, u, rfl, hu, h⟩
theorem runL_keep : ∀ {ps : List Pc} {v r : Jn}, (∀ x ∈ ps, pcOk x.k x.ns = true) → jvalid v = true → runL ps v = some r → nJ r ≤ nJ v ∧ jvalid r = true
  | [], v, r, _, hv, h => by
    obtain rfl := Option.some.inj h
    exact ⟨Rat.le_refl, hv⟩
  | x :: ps, v, r, ho, hv, h => by
    obtain ⟨m, u, hm, hu, hr⟩ := runL_cons h
    have hk := keep_piece (ho x (by simp)) hm hu
    obtain ⟨-, -, ex, ey⟩ := mapply_open hu
    have hw : jvalid u = true := by
      simp only [jvalid, (cq_inner ex).1, (cq_inner ey).1, Bool.and_self]
    obtain ⟨h1, h2⟩ := runL_keep (fun y hy => ho y (by simp [hy])) hw hr
    exact ⟨Rat.le_trans h1 hk, h2⟩
/-- No bench makes power. -/
theorem run_keep {l : List UInt8} {v r : Jn} (h : runI l v = some r) : jvalid v = true ∧ jvalid r = true ∧ nJ r ≤ nJ v := by
  unfold runI at h
  cases hb : benchI l with
  | none => rw [hb] at h; cases h
  | some ps =>
    rw [hb, Option.bind_some] at h
    split at h
    · rename_i hv
      obtain ⟨h1, h2⟩ := runL_keep (benchI_ok hb).2 hv h
      exact ⟨hv, h2, h1⟩
    · cases h
end Go.Proofs.YtkdggljioekkhaaGreatDoor
