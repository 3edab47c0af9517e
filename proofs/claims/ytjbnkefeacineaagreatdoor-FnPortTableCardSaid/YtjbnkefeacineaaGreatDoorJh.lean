/-
  Texts of this claim, joined: Bc; Be; Bd. Nothing is claimed here; the other texts of this claim use it.
-/
import Derived.Test.YtjbnkefeacineaaGreatDoorBb
import Derived.Test.YtjbnkefeacineaaGreatDoorJb
import Derived.Test.YtjbnkefeacineaaGreatDoorJj
namespace Go.Proofs.YtjbnkefeacineaaGreatDoor
set_option linter.unusedSimpArgs false
set_option linter.unusedVariables false
section
open Go.RowKit
theorem le_eqR {a b : Rat} (h : a = b) : a ≤ b := by rw [h]; exact Rat.le_refl
theorem sq_nnR (x : Rat) : 0 ≤ x * x := by
  by_cases h : 0 ≤ x
  · exact Rat.mul_nonneg h h
  · have h2 : 0 ≤ -x := by grind
    have := Rat.mul_nonneg h2 h2
    grind
/-- A share, as a fraction. -/
def shareF (p q : Int) : Fr := (lowI p 0 q).getD ⟨0, 0, 0⟩
def filtI (p q : Int) : Option Mt := if dirOk p q then m4 (timesI (dirC p q) (dirC p q)) (timesI (dirC p q) (dirS p q)) (timesI (dirC p q) (dirS p q)) (timesI (dirS p q) (dirS p q)) else none
/-- The matrix of a piece. -/
def pcMat (x : Pc) : Option Mt := match x.ns with
  | [p, q] => if x.k = 114 then rotI p q else if x.k = 102 then filtI p q else if x.k = 97 then some (diagM (shareF p q) (shareF p q)) else none
  | [p, q, n] => if x.k = 119 then plateI p q n else none
  | _ => none
def runStep (o : Option Jn) (x : Pc) : Option Jn := o.bind fun v => (pcMat x).bind fun m => mapplyI m v
def runL (ps : List Pc) (v : Jn) : Option Jn := ps.foldl runStep (some v)
/-- Light behind a bench. -/
def runI (l : List UInt8) (v : Jn) : Option Jn := (benchI l).bind fun ps => if jvalid v then runL ps v else none
/-- A vector at a port. -/
def portI (a b : List UInt8) (k : Int) (v : Jn) (second : Bool) : Option Jn :=
  if inB k 0 3 then (runI a v).bind fun x => (runI b v).bind fun y => (jtimesI y (phF (if second then (k + 2) % 4 else k))).bind fun z => (jaddI x z).bind fun s => jtimesI s ⟨1, 0, 2⟩ else none
def powersI (a b : List UInt8) (k : Int) (v : Jn) : Option (Fr × Fr) := (portI a b k v false).bind fun x => (portI a b k v true).bind fun y => (jpowerI x).bind fun p => (jpowerI y).bind fun q => some (p, q)
def fringeI (a b : List UInt8) (v : Jn) (k : Int) : Option Fr := (portI a b k v false).bind jpowerI
def fringesI (a b : List UInt8) (v : Jn) : Option (List Fr) := allM (fringeI a b v) [0, 1, 2, 3]
/-- What a vector's power stands for. -/
def nJ (v : Jn) : Rat := qr v.x * qr v.x + qi v.x * qi v.x + (qr v.y * qr v.y + qi v.y * qi v.y)
theorem nJ_nn (v : Jn) : 0 ≤ nJ v := by
  have h1 := sq_nnR (qr v.x)
  have h2 := sq_nnR (qi v.x)
  have h3 := sq_nnR (qr v.y)
  have h4 := sq_nnR (qi v.y)
  unfold nJ
  grind
theorem cq_power {a h : Fr} (e : powerI a = some h) : realOk h = true ∧ qr h = qr a * qr a + qi a * qi a := by
  unfold powerI at e
  split at e
  · rename_i hv
    have da := (fvalid_bd a hv).2.2.1
    obtain ⟨v, h1, h2⟩ := cq_low (dens_pos da da) e
    have na := q_ne da
    have hr : realOk h = true := low_real (dens_pos da da) e
    refine ⟨hr, ?_⟩
    rw [h1]; unfold qr qi
    simp only [Rat.intCast_mul, Rat.intCast_add]
    clear h1 h2 e hv
    grind
  · cases e
theorem jpower_open {v : Jn} {f : Fr} (e : jpowerI v = some f) : jvalid v = true ∧ ∃ x y, powerI v.x = some x ∧ powerI v.y = some y ∧ addI x y = some f := by
  unfold jpowerI at e
  split at e
  · rename_i hv
    refine ⟨hv, ?_⟩
    cases hx : powerI v.x with
    | none => rw [hx] at e; cases e
    | some x =>
      cases hy : powerI v.y with
      | none => rw [hx, hy] at e; cases e
      | some y =>
        rw [hx, hy] at e
        exact ⟨x, y, rfl, rfl, e⟩
  · cases e
theorem cq_jpower {v : Jn} {f : Fr} (e : jpowerI v = some f) : realOk f = true ∧ qr f = nJ v := by
  obtain ⟨-, x, y, hx, hy, ha⟩ := jpower_open e
  obtain ⟨rx, qx⟩ := cq_power hx
  obtain ⟨ry, qy⟩ := cq_power hy
  obtain ⟨r, q⟩ := q_add rx ry ha
  exact ⟨r, by rw [q, qx, qy]; rfl⟩
theorem cq_inner {a b c d h : Fr} (e : innerI a b c d = some h) : fvalid h = true ∧ qr h = (qr a * qr b - qi a * qi b) + (qr c * qr d - qi c * qi d) ∧ qi h = (qr a * qi b + qi a * qr b) + (qr c * qi d + qi c * qr d) := by
  unfold innerI at e
  cases hx : timesI a b with
  | none => rw [hx] at e; cases e
  | some x =>
    cases hy : timesI c d with
    | none => rw [hx, hy] at e; cases e
    | some y =>
      rw [hx, hy] at e
      obtain ⟨-, x1, x2⟩ := cq_times hx
      obtain ⟨-, y1, y2⟩ := cq_times hy
      obtain ⟨v, h1, h2⟩ := cq_add e
      exact ⟨v, by rw [h1, x1, y1], by rw [h2, x2, y2]⟩
theorem mapply_open {m : Mt} {v r : Jn} (e : mapplyI m v = some r) : mvalid m = true ∧ jvalid v = true ∧ innerI m.a v.x m.b v.y = some r.x ∧ innerI m.c v.x m.d v.y = some r.y := by
  unfold mapplyI at e
  split at e
  · rename_i hv
    simp only [Bool.and_eq_true] at hv
    refine ⟨hv.1, hv.2, ?_⟩
    cases hx : innerI m.a v.x m.b v.y with
    | none => rw [hx] at e; cases e
    | some x =>
      cases hy : innerI m.c v.x m.d v.y with
      | none => rw [hx, hy] at e; cases e
      | some y =>
        rw [hx, hy] at e
        obtain rfl := Option.some.inj e
        exact ⟨rfl, rfl⟩
  · cases e
theorem mtimes_open {m n r : Mt} (e : mtimesI m n = some r) : innerI m.a n.a m.b n.c = some r.a ∧ innerI m.a n.b m.b n.d = some r.b ∧ innerI m.c n.a m.d n.c = some r.c ∧ innerI m.c n.b m.d n.d = some r.d := by
  unfold mtimesI at e
  split at e
  · cases h1 : innerI m.a n.a m.b n.c with
    | none => rw [h1] at e; cases e
    | some x1 =>
      cases h2 : innerI m.a n.b m.b n.d with
      | none => rw [h1, h2] at e; cases e
      | some x2 =>
        cases h3 : innerI m.c n.a m.d n.c with
        | none => rw [h1, h2, h3] at e; cases e
        | some x3 =>
          cases h4 : innerI m.c n.b m.d n.d with
          | none => rw [h1, h2, h3, h4] at e; cases e
          | some x4 =>
            rw [h1, h2, h3, h4] at e
            obtain rfl := Option.some.inj e
            exact ⟨rfl, rfl, rfl, rfl⟩
  · cases e
theorem m4_open {a b c d : Option Fr} {r : Mt} (e : m4 a b c d = some r) : a = some r.a ∧ b = some r.b ∧ c = some r.c ∧ d = some r.d := by
  cases a with
  | none => cases e
  | some a =>
    cases b with
    | none => cases e
    | some b =>
      cases c with
      | none => cases e
      | some c =>
        cases d with
        | none => cases e
        | some d =>
          obtain rfl := Option.some.inj e
          exact ⟨rfl, rfl, rfl, rfl⟩
/-- A direction's two numbers. -/
theorem cq_dir {p q : Int} (h : dirOk p q = true) : qi (dirC p q) = 0 ∧ qi (dirS p q) = 0 ∧ qr (dirC p q) * qr (dirC p q) + qr (dirS p q) * qr (dirS p q) = 1 := by
  obtain ⟨h1, h2⟩ := rep_c h
  obtain ⟨b1, -⟩ := dir_bd p q h
  have n := q_ne b1.1
  have c1 : qr (dirC p q) = ((p * p - q * q : Int) : Rat) / ((p * p + q * q : Int) : Rat) := q_cross h1.bd.1 h1.pos h1.re
  have c2 : qi (dirC p q) = ((0 : Int) : Rat) / ((p * p + q * q : Int) : Rat) := q_cross h1.bd.1 h1.pos h1.im
  have s1 : qr (dirS p q) = ((2 * p * q : Int) : Rat) / ((p * p + q * q : Int) : Rat) := q_cross h2.bd.1 h2.pos h2.re
  have s2 : qi (dirS p q) = ((0 : Int) : Rat) / ((p * p + q * q : Int) : Rat) := q_cross h2.bd.1 h2.pos h2.im
  have z : ((0 : Int) : Rat) / ((p * p + q * q : Int) : Rat) = 0 := by simp [Rat.div_def]
  refine ⟨by rw [c2, z], by rw [s2, z], ?_⟩
  rw [c1, s1]
  simp only [Rat.intCast_mul, Rat.intCast_add, Rat.intCast_sub] at n ⊢
  generalize (p : Rat) = P at *
  generalize (q : Rat) = Q at *
  clear c1 c2 s1 s2 z h1 h2 b1 h
  have e : (((2 : Int) : Rat)) = 2 := rfl
  rw [e]
  grind
/-- A phase's two numbers. -/
theorem cq_ph {k : Int} (h : inB k 0 3 = true) : qr (phF k) * qr (phF k) + qi (phF k) * qi (phF k) = 1 := by
  rw [inB_iff] at h
  have : k = 0 ∨ k = 1 ∨ k = 2 ∨ k = 3 := by omega
  rcases this with rfl | rfl | rfl | rfl <;> decide +kernel
theorem q_neg (f : Fr) (h : fvalid f = true) : qr ⟨-f.re, -f.im, f.den⟩ = -qr f ∧ qi ⟨-f.re, -f.im, f.den⟩ = -qi f := ⟨q_div_neg _ _, q_div_neg _ _⟩
/-- A rotation keeps the power. -/
theorem keep_rot {p q : Int} {v r : Jn} (h : dirOk p q = true) (e : mapplyI (rotM p q) v = some r) : nJ r = nJ v := by
  obtain ⟨-, -, ex, ey⟩ := mapply_open e
  obtain ⟨c0, s0, cs⟩ := cq_dir h
  obtain ⟨-, x1, x2⟩ := cq_inner ex
  obtain ⟨-, y1, y2⟩ := cq_inner ey
  obtain ⟨n1, n2⟩ := q_neg (dirS p q) (rep_c h).2.ok
  simp only [rotM, n1, n2, c0, s0] at x1 x2 y1 y2
  unfold nJ
  rw [x1, x2, y1, y2]
  generalize qr (dirC p q) = c at *
  generalize qr (dirS p q) = s at *
  generalize qr v.x = a at *
  generalize qi v.x = b at *
  generalize qr v.y = u at *
  generalize qi v.y = w at *
  clear x1 x2 y1 y2 n1 n2 ex ey e h
  grind
/-- A filter takes power. -/
theorem keep_filt {p q : Int} {m : Mt} {v r : Jn} (h : filtI p q = some m) (e : mapplyI m v = some r) : nJ r ≤ nJ v := by
  unfold filtI at h
  split at h
  · rename_i hd
    obtain ⟨c0, s0, cs⟩ := cq_dir hd
    obtain ⟨ma, mb, mc, md⟩ := m4_open h
    obtain ⟨-, ex1, ey1⟩ := mapply_open e
    obtain ⟨ex, ey⟩ := ey1
    obtain ⟨-, a1, a2⟩ := cq_times ma
    obtain ⟨-, b1, b2⟩ := cq_times mb
    obtain ⟨-, g1, g2⟩ := cq_times mc
    obtain ⟨-, d1, d2⟩ := cq_times md
    obtain ⟨-, x1, x2⟩ := cq_inner ex
    obtain ⟨-, y1, y2⟩ := cq_inner ey
    rw [a1, a2, b1, b2] at x1 x2
    rw [g1, g2, d1, d2] at y1 y2
    rw [c0, s0] at x1 x2 y1 y2
    unfold nJ
    rw [x1, x2, y1, y2]
    generalize qr (dirC p q) = c at *
    generalize qr (dirS p q) = s at *
    generalize qr v.x = a at *
    generalize qi v.x = b at *
    generalize qr v.y = u at *
    generalize qi v.y = w at *
    clear x1 x2 y1 y2 a1 a2 b1 b2 g1 g2 d1 d2 ma mb mc md ex ey e h ex1
    have k1 := sq_nnR (s * a - c * u)
    have k2 := sq_nnR (s * b - c * w)
    have e1 : (c * c * a - 0 * b + (c * s * u - 0 * w)) = c * (c * a + s * u) := by grind
    have e2 : (c * c * b + 0 * a + (c * s * w + 0 * u)) = c * (c * b + s * w) := by grind
    have e3 : (c * s * a - 0 * b + (s * s * u - 0 * w)) = s * (c * a + s * u) := by grind
    have e4 : (c * s * b + 0 * a + (s * s * w + 0 * u)) = s * (c * b + s * w) := by grind
    have id1 : (c * (c * a + s * u)) * (c * (c * a + s * u)) + (s * (c * a + s * u)) * (s * (c * a + s * u)) + (s * a - c * u) * (s * a - c * u) = a * a + u * u := by grind
    have id2 : (c * (c * b + s * w)) * (c * (c * b + s * w)) + (s * (c * b + s * w)) * (s * (c * b + s * w)) + (s * b - c * w) * (s * b - c * w) = b * b + w * w := by grind
    grind
  · cases h
/-- A plate keeps the power. -/
theorem keep_plate {p q k : Int} {m : Mt} {v r : Jn} (h : plateI p q k = some m) (e : mapplyI m v = some r) : nJ r = nJ v := by
  unfold plateI at h
  split at h
  · rename_i hc
    simp only [Bool.and_eq_true] at hc
    obtain ⟨hd, hk⟩ := hc
    cases hA : mtimesI (rotM p q) (diagM (phF 0) (phF k)) with
    | none => rw [hA] at h; cases h
    | some A =>
      rw [hA, Option.bind_some] at h
      obtain ⟨a1, a2, a3, a4⟩ := mtimes_open hA
      rw [adj_eq hd] at h
      obtain ⟨b1, b2, b3, b4⟩ := mtimes_open h
      obtain ⟨-, -, ex, ey⟩ := mapply_open e
      obtain ⟨c0, s0, cs⟩ := cq_dir hd
      have gh := cq_ph hk
      obtain ⟨n1, n2⟩ := q_neg (dirS p q) (rep_c hd).2.ok
      have z1 : qr ⟨0, 0, 1⟩ = 0 := by decide +kernel
      have z2 : qi ⟨0, 0, 1⟩ = 0 := by decide +kernel
      have o1 : qr (phF 0) = 1 := by decide +kernel
      have o2 : qi (phF 0) = 0 := by decide +kernel
      have m1 : ∀ f : Fr, qr ⟨f.re, -f.im, f.den⟩ = qr f := fun _ => rfl
      have m2 : ∀ f : Fr, qi ⟨f.re, -f.im, f.den⟩ = -qi f := fun _ => q_div_neg _ _
      have m3 : ∀ f : Fr, qr ⟨-f.re, - -f.im, f.den⟩ = -qr f := fun _ => q_div_neg _ _
      have m4' : ∀ f : Fr, qi ⟨-f.re, - -f.im, f.den⟩ = qi f := fun f => by
        show ((- -f.im : Int) : Rat) / (f.den : Rat) = _
        rw [Int.neg_neg]; rfl
      obtain ⟨-, p1, p2⟩ := cq_inner a1
      obtain ⟨-, p3, p4⟩ := cq_inner a2
      obtain ⟨-, p5, p6⟩ := cq_inner a3
      obtain ⟨-, p7, p8⟩ := cq_inner a4
      obtain ⟨-, r1, r2⟩ := cq_inner b1
      obtain ⟨-, r3, r4⟩ := cq_inner b2
      obtain ⟨-, r5, r6⟩ := cq_inner b3
      obtain ⟨-, r7, r8⟩ := cq_inner b4
      obtain ⟨-, x1, x2⟩ := cq_inner ex
      obtain ⟨-, y1, y2⟩ := cq_inner ey
      simp only [rotM, diagM, n1, n2, z1, z2, o1, o2, c0, s0] at p1 p2 p3 p4 p5 p6 p7 p8
      simp only [m1, m2, m3, m4', c0, s0] at r1 r2 r3 r4 r5 r6 r7 r8
      unfold nJ
      generalize qr (dirC p q) = c at *
      generalize qr (dirS p q) = s at *
      generalize qr (phF k) = g at *
      generalize qi (phF k) = f at *
      generalize qr v.x = a at *
      generalize qi v.x = b at *
      generalize qr v.y = u at *
      generalize qi v.y = w at *
      clear n1 n2 m1 m2 m3 m4' z1 z2 o1 o2 a1 a2 a3 a4 b1 b2 b3 b4 ex ey e h hA hd hk
      have q1 : qr A.a = c := by rw [p1]; grind
      have q2 : qi A.a = 0 := by rw [p2]; grind
      have q3 : qr A.b = -(s * g) := by rw [p3]; grind
      have q4 : qi A.b = -(s * f) := by rw [p4]; grind
      have q5 : qr A.c = s := by rw [p5]; grind
      have q6 : qi A.c = 0 := by rw [p6]; grind
      have q7 : qr A.d = c * g := by rw [p7]; grind
      have q8 : qi A.d = c * f := by rw [p8]; grind
      rw [q1, q2, q3, q4] at r1 r2 r3 r4
      rw [q5, q6, q7, q8] at r5 r6 r7 r8
      clear p1 p2 p3 p4 p5 p6 p7 p8 q1 q2 q3 q4 q5 q6 q7 q8
      have e1 : qr r.x = c * (c * a + s * u) - s * (g * (c * u - s * a) - f * (c * w - s * b)) := by rw [x1, r1, r2, r3, r4]; clear x1 x2 y1 y2 r1 r2 r3 r4 r5 r6 r7 r8 gh cs; grind
      have e2 : qi r.x = c * (c * b + s * w) - s * (g * (c * w - s * b) + f * (c * u - s * a)) := by rw [x2, r1, r2, r3, r4]; clear x1 x2 y1 y2 r1 r2 r3 r4 r5 r6 r7 r8 gh cs e1; grind
      have e3 : qr r.y = s * (c * a + s * u) + c * (g * (c * u - s * a) - f * (c * w - s * b)) := by rw [y1, r5, r6, r7, r8]; clear x1 x2 y1 y2 r1 r2 r3 r4 r5 r6 r7 r8 gh cs e1 e2; grind
      have e4 : qi r.y = s * (c * b + s * w) + c * (g * (c * w - s * b) + f * (c * u - s * a)) := by rw [y2, r5, r6, r7, r8]; clear x1 x2 y1 y2 r1 r2 r3 r4 r5 r6 r7 r8 gh cs e1 e2 e3; grind
      rw [e1, e2, e3, e4]
      clear x1 x2 y1 y2 r1 r2 r3 r4 r5 r6 r7 r8 e1 e2 e3 e4
      have k1 : ∀ P Q : Rat, (c * P - s * Q) * (c * P - s * Q) + (s * P + c * Q) * (s * P + c * Q) = P * P + Q * Q := by intro P Q; grind
      have k2 : ∀ P Q : Rat, (g * P - f * Q) * (g * P - f * Q) + (g * Q + f * P) * (g * Q + f * P) = P * P + Q * Q := by intro P Q; grind
      have k3 : ∀ P Q : Rat, (c * P + s * Q) * (c * P + s * Q) + (c * Q - s * P) * (c * Q - s * P) = P * P + Q * Q := by intro P Q; grind
      have i1 := k1 (c * a + s * u) (g * (c * u - s * a) - f * (c * w - s * b))
      have i2 := k1 (c * b + s * w) (g * (c * w - s * b) + f * (c * u - s * a))
      have i3 := k2 (c * u - s * a) (c * w - s * b)
      have i4 := k3 a u
      have i5 := k3 b w
      generalize c * (c * a + s * u) - s * (g * (c * u - s * a) - f * (c * w - s * b)) = X1 at *
      generalize c * (c * b + s * w) - s * (g * (c * w - s * b) + f * (c * u - s * a)) = X2 at *
      generalize s * (c * a + s * u) + c * (g * (c * u - s * a) - f * (c * w - s * b)) = X3 at *
      generalize s * (c * b + s * w) + c * (g * (c * w - s * b) + f * (c * u - s * a)) = X4 at *
      generalize g * (c * u - s * a) - f * (c * w - s * b) = X5 at *
      generalize g * (c * w - s * b) + f * (c * u - s * a) = X6 at *
      generalize c * a + s * u = X7 at *
      generalize c * b + s * w = X8 at *
      generalize c * u - s * a = X9 at *
      generalize c * w - s * b = X0 at *
      clear k1 k2 k3 cs gh
      grind
  · cases h
/-- A share stands for a number from 0 to 1. -/
theorem cq_share {p q : Int} (h1 : 1 ≤ q) (h2 : q ≤ 100) (h3 : 0 ≤ p) (h4 : p ≤ q) : fvalid (shareF p q) = true ∧ qi (shareF p q) = 0 ∧ 0 ≤ qr (shareF p q) ∧ qr (shareF p q) ≤ 1 := by
  obtain ⟨f, e, hf⟩ := lowI_small p 0 q h1 (by omega) (by omega) (by omega)
  have he : shareF p q = f := by unfold shareF; rw [e]; rfl
  rw [he]
  have c1 : qr f = (p : Rat) / (q : Rat) := q_cross hf.bd.1 hf.pos hf.re
  have c2 : qi f = ((0 : Int) : Rat) / (q : Rat) := q_cross hf.bd.1 hf.pos hf.im
  have n := q_ne h1
  have a1 : (0 : Rat) ≤ (p : Rat) := by have := Rat.intCast_le_intCast.2 h3; simpa using this
  have a2 : (p : Rat) ≤ (q : Rat) := Rat.intCast_le_intCast.2 h4
  have a3 : (0 : Rat) < (q : Rat) := by have := Rat.intCast_lt_intCast.2 (show (0 : Int) < q by omega); simpa using this
  refine ⟨hf.ok, by rw [c2]; simp [Rat.div_def], ?_, ?_⟩
  · rw [c1, Rat.div_def]
    exact Rat.mul_nonneg a1 (Rat.le_of_lt (Rat.inv_pos.2 a3))
  · rw [c1, Rat.div_def]
    have := Rat.mul_nonneg (show (0 : Rat) ≤ (q : Rat) - (p : Rat) by grind) (Rat.le_of_lt (Rat.inv_pos.2 a3))
    have h5 : (q : Rat) * (q : Rat)⁻¹ = 1 := Rat.mul_inv_cancel _ n
    grind
theorem keep_att {p q : Int} {v r : Jn} (h1 : 1 ≤ q) (h2 : q ≤ 100) (h3 : 0 ≤ p) (h4 : p ≤ q) (e : mapplyI (diagM (shareF p q) (shareF p q)) v = some r) : nJ r ≤ nJ v := by
  obtain ⟨-, s0, s1, s2⟩ := cq_share h1 h2 h3 h4
  obtain ⟨-, -, ex, ey⟩ := mapply_open e
  obtain ⟨-, x1, x2⟩ := cq_inner ex
  obtain ⟨-, y1, y2⟩ := cq_inner ey
  have z1 : qr ⟨0, 0, 1⟩ = 0 := by decide +kernel
  have z2 : qi ⟨0, 0, 1⟩ = 0 := by decide +kernel
  simp only [diagM, z1, z2, s0] at x1 x2 y1 y2
  have hn := nJ_nn v
  have e1 : nJ r = qr (shareF p q) * qr (shareF p q) * nJ v := by
    unfold nJ
    rw [x1, x2, y1, y2]
    generalize qr (shareF p q) = c at *
    generalize qr v.x = a at *
    generalize qi v.x = b at *
    generalize qr v.y = u at *
    generalize qi v.y = w at *
    clear x1 x2 y1 y2 ex ey e hn s1 s2
    grind
  rw [e1]
  generalize qr (shareF p q) = c at *
  generalize nJ v = N at *
  have k1 := Rat.mul_nonneg (Rat.mul_nonneg s1 (show (0 : Rat) ≤ 1 - c by grind)) hn
  have k2 := Rat.mul_nonneg (show (0 : Rat) ≤ 1 - c by grind) hn
  clear e1 x1 x2 y1 y2 ex ey e
  grind
/-- No piece makes power. -/
theorem keep_piece {x : Pc} {m : Mt} {v r : Jn} (ho : pcOk x.k x.ns = true) (h : pcMat x = some m) (e : mapplyI m v = some r) : nJ r ≤ nJ v := by
  obtain ⟨k, ns⟩ := x
  match ns, ho, h with
  | [], ho, h => cases ho
  | [_], ho, h => cases ho
  | [p, q], ho, h =>
    simp only [pcMat] at h
    by_cases h1 : k = 114
    · rw [if_pos h1] at h
      unfold rotI at h
      split at h
      · rename_i hd
        obtain rfl := Option.some.inj h
        exact le_eqR (keep_rot hd e)
      · cases h
    · rw [if_neg h1] at h
      by_cases h2 : k = 102
      · rw [if_pos h2] at h
        exact keep_filt h e
      · rw [if_neg h2] at h
        by_cases h3 : k = 97
        · rw [if_pos h3] at h
          obtain rfl := Option.some.inj h
          have hz : pcOk k [p, q] = (inB q 1 100 && inB p 0 q) := by
            show (if k = 114 ∨ k = 102 then dirOk p q else if k = 97 ∨ k = 100 then inB q 1 100 && inB p 0 q else false) = _
            rw [if_neg (fun hh => hh.elim h1 h2), if_pos (.inl h3)]
          have ho2 : pcOk k [p, q] = true := ho
          rw [hz] at ho2
          simp only [Bool.and_eq_true, inB_iff] at ho2
          exact keep_att ho2.1.1 ho2.1.2 ho2.2.1 ho2.2.2 e
        · rw [if_neg h3] at h; cases h
  | [p, q, n], ho, h =>
    simp only [pcMat] at h
    split at h
    · exact le_eqR (keep_plate h e)
    · cases h
  | _ :: _ :: _ :: _ :: _, ho, h => cases ho
theorem pieceI_ok {l : List UInt8} {x : Pc} (h : pieceI l = some x) : pcOk x.k x.ns = true := by
  cases l with
  | nil => cases h
  | cons c r =>
    rw [pieceI] at h
    cases hI : allM numI (cutL 58 r) with
    | none => rw [hI] at h; cases h
    | some ns =>
      rw [hI, Option.bind_some] at h
      split at h
      · rename_i hp
        obtain rfl := Option.some.inj h
        exact hp
      · cases h
theorem pieces_ok : ∀ {ws : List (List UInt8)} {ps : List Pc}, allM pieceI ws = some ps → ∀ x ∈ ps, pcOk x.k x.ns = true
  | [], ps, h, x, hx => by obtain rfl := Option.some.inj h; cases hx
  | w :: ws, ps, h, x, hx => by
    obtain ⟨y, zs, h1, h2, rfl⟩ := allM_cons h
    rcases List.mem_cons.1 hx with rfl | hx
    · exact pieceI_ok h1
    · exact pieces_ok h2 x hx
theorem benchI_ok {l : List UInt8} {ps : List Pc} (h : benchI l = some ps) : ps.length ≤ 12 ∧ ∀ x ∈ ps, pcOk x.k x.ns = true := by
  unfold benchI at h
  split at h
  · obtain rfl := Option.some.inj h
    exact ⟨by simp, by simp⟩
  · cases hp : allM pieceI (cutL 32 l) with
    | none => rw [hp] at h; cases h
    | some qs =>
      rw [hp, Option.bind_some] at h
      split at h
      · rename_i hl
        obtain rfl := Option.some.inj h
        exact ⟨hl, pieces_ok hp⟩
      · cases h
theorem runL_none : ∀ ps : List Pc, ps.foldl runStep none = none
  | [] => rfl
  | x :: ps => runL_none ps
theorem runL_cons {x : Pc} {ps : List Pc} {v r : Jn} (h : runL (x :: ps) v = some r) : ∃ m u, pcMat x = some m ∧ mapplyI m v = some u ∧ runL ps u = some r := by
  unfold runL at h
  rw [List.foldl_cons] at h
  unfold runStep at h
  rw [Option.bind_some] at h
  cases hm : pcMat x with
  | none => rw [hm] at h; exact absurd ((runL_none ps).symm.trans h) (by simp)
  | some m =>
    rw [hm, Option.bind_some] at h
    cases hu : mapplyI m v with
    | none => rw [hu] at h; exact absurd ((runL_none ps).symm.trans h) (by simp)
    | some u =>
      rw [hu] at h
      exact ⟨m, u, rfl, hu, h⟩
theorem runL_keep : ∀ {ps : List Pc} {v r : Jn}, (∀ x ∈ ps, pcOk x.k x.ns = true) → jvalid v = true → runL ps v = some r → nJ r ≤ nJ v ∧ jvalid r = true
  | [], v, r, _, hv, h => by
    obtain rfl := Option.some.inj h
    exact ⟨Rat.le_refl, hv⟩
  | x :: ps, v, r, ho, hv, h => by
    obtain ⟨m, u, hm, hu, hr⟩ := runL_cons h
    have hk := keep_piece (ho x (by simp)) hm hu
    obtain ⟨-, -, ex, ey⟩ := mapply_open hu
    have hw : jvalid u = true := by
      simp only [jvalid, (cq_inner ex).1, (cq_inner ey).1, Bool.and_self]
    obtain ⟨h1, h2⟩ := runL_keep (fun y hy => ho y (by simp [hy])) hw hr
    exact ⟨Rat.le_trans h1 hk, h2⟩
/-- No bench makes power. -/
theorem run_keep {l : List UInt8} {v r : Jn} (h : runI l v = some r) : jvalid v = true ∧ jvalid r = true ∧ nJ r ≤ nJ v := by
  unfold runI at h
  cases hb : benchI l with
  | none => rw [hb] at h; cases h
  | some ps =>
    rw [hb, Option.bind_some] at h
    split at h
    · rename_i hv
      obtain ⟨h1, h2⟩ := runL_keep (benchI_ok hb).2 hv h
      exact ⟨hv, h2, h1⟩
    · cases h
end
section
open Go.RowKit
/-- The sign of a difference of real fractions. -/
def cmpS (d : Int) : Int := if d < 0 then -1 else if 0 < d then 1 else 0
def cmpV (a b : Fr) : Int := cmpS (a.re * b.den - b.re * a.den)
def cmpI (a b : Fr) : Option Int := if realOk a && realOk b then some (cmpS (a.re * b.den - b.re * a.den)) else none
theorem cmpI_ok {a b : Fr} (ha : realOk a = true) (hb : realOk b = true) : cmpI a b = some (cmpV a b) := by
  unfold cmpI cmpV; rw [ha, hb]; rfl
theorem q_pos {b : Int} (hb : 1 ≤ b) : (0 : Rat) < (b : Rat) := by
  have := Rat.intCast_lt_intCast.2 (show (0 : Int) < b by omega)
  simpa using this
theorem qr_mul {a : Fr} (ha : realOk a = true) : qr a * (a.den : Rat) = (a.re : Rat) := by
  have n := q_ne (real_parts ha).2.2
  unfold qr
  grind
theorem q_lt {a b : Fr} (ha : realOk a = true) (hb : realOk b = true) : a.re * b.den < b.re * a.den ↔ qr a < qr b := by
  have da := q_pos (real_parts ha).2.2
  have db := q_pos (real_parts hb).2.2
  have ea := qr_mul ha
  have eb := qr_mul hb
  rw [← Rat.intCast_lt_intCast, Rat.intCast_mul, Rat.intCast_mul, ← ea, ← eb]
  generalize (a.den : Rat) = A at *
  generalize (b.den : Rat) = B at *
  generalize qr a = x at *
  generalize qr b = y at *
  have hAB := Rat.mul_pos da db
  clear ea eb
  constructor
  · intro h
    by_cases hc : x < y
    · exact hc
    · have := Rat.mul_nonneg (show 0 ≤ x - y by grind) (Rat.le_of_lt hAB)
      grind
  · intro h
    have := Rat.mul_pos (show 0 < y - x by grind) hAB
    grind
theorem cmpV_lt {a b : Fr} (ha : realOk a = true) (hb : realOk b = true) : cmpV a b < 0 ↔ qr a < qr b := by
  rw [← q_lt ha hb]
  unfold cmpV cmpS
  split
  · omega
  · split <;> omega
theorem cmpV_gt {a b : Fr} (ha : realOk a = true) (hb : realOk b = true) : 0 < cmpV a b ↔ qr b < qr a := by
  rw [← q_lt hb ha]
  unfold cmpV cmpS
  split
  · omega
  · split <;> omega
theorem cmpV_eq {a b : Fr} (ha : realOk a = true) (hb : realOk b = true) : cmpV a b = 0 ↔ qr a = qr b := by
  have h1 := cmpV_lt ha hb
  have h2 := cmpV_gt ha hb
  constructor
  · intro h
    have k1 : ¬ qr a < qr b := fun k => by have := h1.2 k; omega
    have k2 : ¬ qr b < qr a := fun k => by have := h2.2 k; omega
    grind
  · intro h
    have k1 : ¬ cmpV a b < 0 := fun k => by have := h1.1 k; grind
    have k2 : ¬ 0 < cmpV a b := fun k => by have := h2.1 k; grind
    omega
/-- The place of the first greatest one, and of the first least one, of the first ones. -/
def atF (fs : List Fr) (k : Nat) : Fr := fs.getD k ⟨0, 0, 0⟩
def grt (fs : List Fr) : Nat → Nat
  | 0 => 0
  | k + 1 => if 0 < cmpV (atF fs k) (atF fs (grt fs k)) then k else grt fs k
def lst (fs : List Fr) : Nat → Nat
  | 0 => 0
  | k + 1 => if cmpV (atF fs k) (atF fs (lst fs k)) < 0 then k else lst fs k
theorem grt_lt (fs : List Fr) : ∀ k, grt fs k ≤ k - 1
  | 0 => Nat.le_refl _
  | k + 1 => by
    have := grt_lt fs k
    rw [grt]; split <;> omega
theorem lst_lt (fs : List Fr) : ∀ k, lst fs k ≤ k - 1
  | 0 => Nat.le_refl _
  | k + 1 => by
    have := lst_lt fs k
    rw [lst]; split <;> omega
theorem atF_real {fs : List Fr} (h : ∀ f ∈ fs, realOk f = true) {k : Nat} (hk : k < fs.length) : realOk (atF fs k) = true := by
  unfold atF
  rw [List.getD_eq_getElem?_getD, List.getElem?_eq_getElem hk]
  exact h _ (List.getElem_mem hk)
theorem grt_spec {fs : List Fr} (h : ∀ f ∈ fs, realOk f = true) : ∀ n, n ≤ fs.length → ∀ j, j < n → qr (atF fs j) ≤ qr (atF fs (grt fs n)) ∧ (qr (atF fs j) = qr (atF fs (grt fs n)) → grt fs n ≤ j)
  | 0, _, j, hj => by omega
  | n + 1, hn, j, hj => by
    have ih := grt_spec h n (by omega)
    have hg := grt_lt fs n
    have c := cmpV_gt (a := atF fs n) (b := atF fs (grt fs n)) (atF_real h (by omega)) (atF_real h (by omega))
    rw [grt]
    by_cases hc : 0 < cmpV (atF fs n) (atF fs (grt fs n))
    · rw [if_pos hc]
      have hc' := c.1 hc
      by_cases e : j = n
      · subst e
        exact ⟨Rat.le_refl, fun _ => Nat.le_refl _⟩
      · have := (ih j (by omega)).1
        exact ⟨by grind, fun e2 => by grind⟩
    · rw [if_neg hc]
      have hc' : ¬ qr (atF fs (grt fs n)) < qr (atF fs n) := fun k => hc (c.2 k)
      by_cases e : j = n
      · subst e
        exact ⟨by grind, fun _ => by omega⟩
      · exact ih j (by omega)
theorem lst_spec {fs : List Fr} (h : ∀ f ∈ fs, realOk f = true) : ∀ n, n ≤ fs.length → ∀ j, j < n → qr (atF fs (lst fs n)) ≤ qr (atF fs j)
  | 0, _, j, hj => by omega
  | n + 1, hn, j, hj => by
    have ih := lst_spec h n (by omega)
    have hg := lst_lt fs n
    have c := cmpV_lt (a := atF fs n) (b := atF fs (lst fs n)) (atF_real h (by omega)) (atF_real h (by omega))
    rw [lst]
    by_cases hc : cmpV (atF fs n) (atF fs (lst fs n)) < 0
    · rw [if_pos hc]
      have hc' := c.1 hc
      by_cases e : j = n
      · subst e; exact Rat.le_refl
      · have := ih j (by omega)
        grind
    · rw [if_neg hc]
      have hc' : ¬ qr (atF fs n) < qr (atF fs (lst fs n)) := fun k => hc (c.2 k)
      by_cases e : j = n
      · subst e; grind
      · exact ih j (by omega)
end
section
open Go.RowKit
/-- A fraction times a power of i. -/
def rotK (k : Int) (f : Fr) : Fr := if k = 0 then f else if k = 1 then ⟨-f.im, f.re, f.den⟩ else if k = 2 then ⟨-f.re, -f.im, f.den⟩ else ⟨f.im, -f.re, f.den⟩
theorem gcd3_swap (a b c : Int) : gcd3 b a c = gcd3 a b c := by
  unfold gcd3
  rw [gcdI_comm (absI b) (absI a)]
theorem gcd3_neg1 (a b c : Int) : gcd3 (-a) b c = gcd3 a b c := by simp [gcd3, gcdI, absI]
theorem rotK_valid {f : Fr} (h : fvalid f = true) (k : Int) : fvalid (rotK k f) = true := by
  have b := fvalid_bd f h
  have g := fvalid_gcd f h
  unfold rotK
  split
  · exact h
  · split
    · simp only [fvalid, gcd3_neg1, gcd3_swap f.re f.im f.den, g, Bool.and_eq_true, inB_iff, beq_self_eq_true, and_true]
      omega
    · split
      · simp only [fvalid, gcd3_neg, g, Bool.and_eq_true, inB_iff, beq_self_eq_true, and_true]
        omega
      · simp only [fvalid, gcd3_neg2, gcd3_swap f.re f.im f.den, g, Bool.and_eq_true, inB_iff, beq_self_eq_true, and_true]
        omega
theorem low_selfF {a : Fr} (ha : fvalid a = true) : lowI a.re a.im a.den = some a := by
  have hg := fvalid_gcd a ha
  have hb := fvalid_bd a ha
  unfold lowI
  simp only [hg, Int.tdiv_one, Int.ediv_one]
  rw [if_pos]
  simp only [Bool.and_eq_true, inB_iff, Bool.not_eq_true', decide_eq_false_iff_not]
  exact ⟨⟨hb.1, hb.2.1⟩, by omega⟩
theorem ph_cases {k : Int} (h : inB k 0 3 = true) : k = 0 ∨ k = 1 ∨ k = 2 ∨ k = 3 := by
  rw [inB_iff] at h; omega
theorem times_ph {f : Fr} (h : fvalid f = true) {k : Int} (hk : inB k 0 3 = true) : timesI f (phF k) = some (rotK k f) := by
  have e := low_selfF (rotK_valid h k)
  rcases ph_cases hk with rfl | rfl | rfl | rfl
  · rw [timesI, h, show fvalid (phF 0) = true by decide]
    simpa [rotK, phF] using e
  · rw [timesI, h, show fvalid (phF 1) = true by decide]
    simpa [rotK, phF] using e
  · rw [timesI, h, show fvalid (phF 2) = true by decide]
    simpa [rotK, phF] using e
  · rw [timesI, h, show fvalid (phF 3) = true by decide]
    simpa [rotK, phF] using e
def rotJ (k : Int) (v : Jn) : Jn := ⟨rotK k v.x, rotK k v.y⟩
theorem jtimes_ph {v : Jn} (h : jvalid v = true) {k : Int} (hk : inB k 0 3 = true) : jtimesI v (phF k) = some (rotJ k v) := by
  simp only [jvalid, Bool.and_eq_true] at h
  unfold jtimesI
  rw [times_ph h.1 hk, times_ph h.2 hk]
  rfl
theorem rotK_two {k : Int} (hk : inB k 0 3 = true) (f : Fr) : rotK ((k + 2) % 4) f = rotK 2 (rotK k f) := by
  obtain ⟨a, b, c⟩ := f
  rcases ph_cases hk with rfl | rfl | rfl | rfl <;> simp [rotK]
theorem ph_two {k : Int} (hk : inB k 0 3 = true) : inB ((k + 2) % 4) 0 3 = true := by
  rw [inB_iff] at hk ⊢; omega
theorem less_rot {a b : Fr} (hb : fvalid b = true) : lessI a b = addI a (rotK 2 b) := by
  unfold lessI addI
  rw [rotK_valid hb, hb]
  simp only [rotK, show ¬ (2 : Int) = 0 by omega, show ¬ (2 : Int) = 1 by omega, if_false, if_true]
  rw [Int.neg_mul, Int.neg_mul]
  rfl
theorem rotJ_valid {v : Jn} (h : jvalid v = true) (k : Int) : jvalid (rotJ k v) = true := by
  simp only [jvalid, Bool.and_eq_true] at h ⊢
  exact ⟨rotK_valid h.1 k, rotK_valid h.2 k⟩
theorem jless_rot {x y : Jn} (hy : jvalid y = true) {k : Int} (hk : inB k 0 3 = true) : jlessI x (rotJ k y) = jaddI x (rotJ ((k + 2) % 4) y) := by
  have hv := rotJ_valid hy k
  simp only [jvalid, Bool.and_eq_true] at hv
  unfold jlessI jaddI rotJ
  unfold rotJ at hv
  rw [less_rot hv.1, less_rot hv.2, rotK_two hk, rotK_two hk]
/-- What the program makes of both arms. -/
def portP (x y : Jn) (k : Int) (second : Bool) : Option Jn := (jtimesI y (phF k)).bind fun z => (if second then jlessI x z else jaddI x z).bind fun s => jtimesI s ⟨1, 0, 2⟩
/-- What the reference makes of them. -/
def portS (x y : Jn) (k : Int) (second : Bool) : Option Jn := (jtimesI y (phF (if second then (k + 2) % 4 else k))).bind fun z => (jaddI x z).bind fun s => jtimesI s ⟨1, 0, 2⟩
theorem port_eq {x y : Jn} (hy : jvalid y = true) {k : Int} (hk : inB k 0 3 = true) (second : Bool) : portP x y k second = portS x y k second := by
  unfold portP portS
  rw [jtimes_ph hy hk]
  cases second
  · simp only [Bool.false_eq_true, if_false]
    rw [jtimes_ph hy hk]
  · simp only [if_true]
    rw [jtimes_ph hy (ph_two hk), Option.bind_some, Option.bind_some, jless_rot hy hk]
theorem cq_ph2 {k : Int} (h : inB k 0 3 = true) : qr (phF ((k + 2) % 4)) = -qr (phF k) ∧ qi (phF ((k + 2) % 4)) = -qi (phF k) := by
  rcases ph_cases h with rfl | rfl | rfl | rfl <;> decide +kernel
theorem jtimes_open {v r : Jn} {c : Fr} (e : jtimesI v c = some r) : timesI v.x c = some r.x ∧ timesI v.y c = some r.y := by
  unfold jtimesI at e
  cases hx : timesI v.x c with
  | none => rw [hx] at e; cases e
  | some x =>
    cases hy : timesI v.y c with
    | none => rw [hx, hy] at e; cases e
    | some y =>
      rw [hx, hy] at e
      obtain rfl := Option.some.inj e
      exact ⟨rfl, rfl⟩
theorem jadd_open {v u r : Jn} (e : jaddI v u = some r) : addI v.x u.x = some r.x ∧ addI v.y u.y = some r.y := by
  unfold jaddI at e
  cases hx : addI v.x u.x with
  | none => rw [hx] at e; cases e
  | some x =>
    cases hy : addI v.y u.y with
    | none => rw [hx, hy] at e; cases e
    | some y =>
      rw [hx, hy] at e
      obtain rfl := Option.some.inj e
      exact ⟨rfl, rfl⟩
def phase (k : Int) (second : Bool) : Int := if second then (k + 2) % 4 else k
/-- The numbers at a port. -/
structure PortV (x y o : Jn) (g f : Rat) : Prop where
  x1 : qr o.x = (qr x.x + (qr y.x * g - qi y.x * f)) / 2
  x2 : qi o.x = (qi x.x + (qr y.x * f + qi y.x * g)) / 2
  y1 : qr o.y = (qr x.y + (qr y.y * g - qi y.y * f)) / 2
  y2 : qi o.y = (qi x.y + (qr y.y * f + qi y.y * g)) / 2
theorem portS_val {x y o : Jn} {k : Int} {s : Bool} (h : portS x y k s = some o) : jvalid o = true ∧ PortV x y o (qr (phF (phase k s))) (qi (phF (phase k s))) := by
  unfold portS at h
  rw [show (if s then (k + 2) % 4 else k) = phase k s from rfl] at h
  generalize phF (phase k s) = ph at *
  cases hz : jtimesI y ph with
  | none => rw [hz] at h; cases h
  | some z =>
    rw [hz, Option.bind_some] at h
    cases hs : jaddI x z with
    | none => rw [hs] at h; cases h
    | some u =>
      rw [hs, Option.bind_some] at h
      obtain ⟨z1, z2⟩ := jtimes_open hz
      obtain ⟨u1, u2⟩ := jadd_open hs
      obtain ⟨o1, o2⟩ := jtimes_open h
      obtain ⟨-, a1, a2⟩ := cq_times z1
      obtain ⟨-, a3, a4⟩ := cq_times z2
      obtain ⟨-, b1, b2⟩ := cq_add u1
      obtain ⟨-, b3, b4⟩ := cq_add u2
      obtain ⟨v1, c1, c2⟩ := cq_times o1
      obtain ⟨v2, c3, c4⟩ := cq_times o2
      have h1 : qr ⟨1, 0, 2⟩ = 1 / 2 := by decide +kernel
      have h2 : qi ⟨1, 0, 2⟩ = 0 := by decide +kernel
      rw [h1, h2, b1, b2, a1, a2] at c1 c2
      rw [h1, h2, b3, b4, a3, a4] at c3 c4
      refine ⟨by simp [jvalid, v1, v2], ?_, ?_, ?_, ?_⟩
      · rw [c1]; clear c1 c2 c3 c4; grind
      · rw [c2]; clear c1 c2 c3 c4; grind
      · rw [c3]; clear c1 c2 c3 c4; grind
      · rw [c4]; clear c1 c2 c3 c4; grind
theorem port_open {a b : List UInt8} {k : Int} {v o : Jn} {s : Bool} (h : portI a b k v s = some o) : inB k 0 3 = true ∧ ∃ x y, runI a v = some x ∧ runI b v = some y ∧ portS x y k s = some o := by
  unfold portI at h
  split at h
  · rename_i hk
    refine ⟨hk, ?_⟩
    cases hx : runI a v with
    | none => rw [hx] at h; cases h
    | some x =>
      cases hy : runI b v with
      | none => rw [hx, hy] at h; cases h
      | some y =>
        rw [hx, hy] at h
        exact ⟨x, y, rfl, rfl, h⟩
  · cases h
theorem port_mk {a b : List UInt8} {k : Int} {v x y : Jn} (s : Bool) (hk : inB k 0 3 = true) (hx : runI a v = some x) (hy : runI b v = some y) : portI a b k v s = portS x y k s := by
  unfold portI
  rw [if_pos hk, hx, hy]
  rfl
theorem jn_uniq {a b : Jn} (ha : jvalid a = true) (hb : jvalid b = true) (h1 : qr a.x = qr b.x) (h2 : qi a.x = qi b.x) (h3 : qr a.y = qr b.y) (h4 : qi a.y = qi b.y) : a = b := by
  simp only [jvalid, Bool.and_eq_true] at ha hb
  have e1 := cq_uniq ha.1 hb.1 h1 h2
  have e2 := cq_uniq ha.2 hb.2 h3 h4
  cases a; cases b
  simp only at e1 e2
  rw [e1, e2]
/-- Both ports together are one arm. -/
theorem port_law {a b : List UInt8} {k : Int} {v o x sum : Jn} {s : Bool} (ho : portI a b k v s = some o) (hx : portI a b k v (!s) = some x) (h : jaddI o x = some sum) : runI a v = some sum := by
  obtain ⟨hk, u, w, hu, hw, p1⟩ := port_open ho
  obtain ⟨-, u', w', hu', hw', p2⟩ := port_open hx
  rw [hu] at hu'
  rw [hw] at hw'
  obtain rfl := Option.some.inj hu'
  obtain rfl := Option.some.inj hw'
  obtain ⟨-, q1⟩ := portS_val p1
  obtain ⟨-, q2⟩ := portS_val p2
  obtain ⟨s1, s2⟩ := jadd_open h
  obtain ⟨v1, a1, a2⟩ := cq_add s1
  obtain ⟨v2, a3, a4⟩ := cq_add s2
  obtain ⟨-, vu, -⟩ := run_keep hu
  have hp : qr (phF (phase k (!s))) = -qr (phF (phase k s)) ∧ qi (phF (phase k (!s))) = -qi (phF (phase k s)) := by
    have := cq_ph2 hk
    cases s
    · exact this
    · show qr (phF k) = -qr (phF ((k + 2) % 4)) ∧ qi (phF k) = -qi (phF ((k + 2) % 4))
      rw [this.1, this.2]
      grind
  rw [hp.1, hp.2] at q2
  obtain ⟨c1, c2, c3, c4⟩ := q1
  obtain ⟨d1, d2, d3, d4⟩ := q2
  rw [hu]
  congr 1
  refine jn_uniq vu (by simp [jvalid, v1, v2]) ?_ ?_ ?_ ?_
  · rw [a1, c1, d1]; clear a1 a2 a3 a4 c1 c2 c3 c4 d1 d2 d3 d4 hp; grind
  · rw [a2, c2, d2]; clear a1 a2 a3 a4 c1 c2 c3 c4 d1 d2 d3 d4 hp; grind
  · rw [a3, c3, d3]; clear a1 a2 a3 a4 c1 c2 c3 c4 d1 d2 d3 d4 hp; grind
  · rw [a4, c4, d4]; clear a1 a2 a3 a4 c1 c2 c3 c4 d1 d2 d3 d4 hp; grind
/-- Twice the mixed part of a power. -/
def crossQ (x y : Jn) (g f : Rat) : Rat := qr x.x * (qr y.x * g - qi y.x * f) + qi x.x * (qr y.x * f + qi y.x * g) + (qr x.y * (qr y.y * g - qi y.y * f) + qi x.y * (qr y.y * f + qi y.y * g))
theorem port_power {x y o : Jn} {g f : Rat} (hg : g * g + f * f = 1) (h : PortV x y o g f) : nJ o = (nJ x + nJ y + 2 * crossQ x y g f) / 4 := by
  obtain ⟨h1, h2, h3, h4⟩ := h
  unfold nJ crossQ
  rw [h1, h2, h3, h4]
  generalize qr x.x = a at *
  generalize qi x.x = b at *
  generalize qr x.y = c at *
  generalize qi x.y = d at *
  generalize qr y.x = u at *
  generalize qi y.x = w at *
  generalize qr y.y = r at *
  generalize qi y.y = s at *
  clear h1 h2 h3 h4
  have k1 : (u * g - w * f) * (u * g - w * f) + (u * f + w * g) * (u * f + w * g) = u * u + w * w := by grind
  have k2 : (r * g - s * f) * (r * g - s * f) + (r * f + s * g) * (r * f + s * g) = r * r + s * s := by grind
  generalize u * g - w * f = A at *
  generalize u * f + w * g = B at *
  generalize r * g - s * f = C at *
  generalize r * f + s * g = D at *
  clear hg
  grind
theorem cross_neg (x y : Jn) (g f : Rat) : crossQ x y (-g) (-f) = -crossQ x y g f := by
  unfold crossQ; grind
theorem phase_in {k : Int} (h : inB k 0 3 = true) (s : Bool) : inB (phase k s) 0 3 = true := by
  cases s
  · exact h
  · exact ph_two h
/-- A power at a port. -/
theorem port_jpower {a b : List UInt8} {k : Int} {v o : Jn} {s : Bool} {p : Fr} (ho : portI a b k v s = some o) (hp : jpowerI o = some p) : inB k 0 3 = true ∧ ∃ x y, runI a v = some x ∧ runI b v = some y ∧ realOk p = true ∧ qr p = (nJ x + nJ y + 2 * crossQ x y (qr (phF (phase k s))) (qi (phF (phase k s)))) / 4 := by
  obtain ⟨hk, x, y, hx, hy, h⟩ := port_open ho
  obtain ⟨-, hv⟩ := portS_val h
  obtain ⟨r, q⟩ := cq_jpower hp
  exact ⟨hk, x, y, hx, hy, r, by rw [q, port_power (cq_ph (phase_in hk s)) hv]⟩
theorem powers_open {a b : List UInt8} {k : Int} {v : Jn} {p q : Fr} (h : powersI a b k v = some (p, q)) : ∃ x y, portI a b k v false = some x ∧ portI a b k v true = some y ∧ jpowerI x = some p ∧ jpowerI y = some q := by
  unfold powersI at h
  cases h1 : portI a b k v false with
  | none => rw [h1] at h; cases h
  | some x =>
    cases h2 : portI a b k v true with
    | none => rw [h1, h2] at h; cases h
    | some y =>
      cases h3 : jpowerI x with
      | none => rw [h1, h2] at h; simp only [Option.bind_some, h3] at h; cases h
      | some u =>
        cases h4 : jpowerI y with
        | none => rw [h1, h2] at h; simp only [Option.bind_some, h3, h4] at h; cases h
        | some w =>
          rw [h1, h2] at h
          simp only [Option.bind_some, h3, h4, Option.some.injEq, Prod.mk.injEq] at h
          obtain ⟨rfl, rfl⟩ := h
          exact ⟨x, y, rfl, rfl, h3, h4⟩
/-- Both powers together. -/
theorem powers_val {a b : List UInt8} {k : Int} {v : Jn} {p q : Fr} (h : powersI a b k v = some (p, q)) : inB k 0 3 = true ∧ ∃ x y, runI a v = some x ∧ runI b v = some y ∧ realOk p = true ∧ realOk q = true ∧ qr p + qr q = (nJ x + nJ y) / 2 := by
  obtain ⟨x, y, h1, h2, h3, h4⟩ := powers_open h
  obtain ⟨hk, u, w, hu, hw, r1, q1⟩ := port_jpower h1 h3
  obtain ⟨-, u', w', hu', hw', r2, q2⟩ := port_jpower h2 h4
  rw [hu] at hu'
  rw [hw] at hw'
  obtain rfl := Option.some.inj hu'
  obtain rfl := Option.some.inj hw'
  refine ⟨hk, u, w, hu, hw, r1, r2, ?_⟩
  have e1 : phase k false = k := rfl
  have e2 : phase k true = (k + 2) % 4 := rfl
  rw [q1, q2, e1, e2, (cq_ph2 hk).1, (cq_ph2 hk).2, cross_neg]
  grind
/-- Powers of ports are those of both arms; the other phase exchanges them. -/
theorem powers_law {a b : List UInt8} {k : Int} {v : Jn} {p q : Fr} (h : powersI a b k v = some (p, q)) : ∃ x y, runI a v = some x ∧ runI b v = some y ∧
    (∀ m n arms sum twice, jpowerI x = some m → jpowerI y = some n → addI m n = some arms → addI p q = some sum → addI sum sum = some twice → twice = arms) ∧ powersI a b ((k + 2) % 4) v = some (q, p) := by
  obtain ⟨hk, x, y, hx, hy, rp, rq, e⟩ := powers_val h
  refine ⟨x, y, hx, hy, ?_, ?_⟩
  · intro m n arms sum twice hm hn ha hs ht
    obtain ⟨r1, q1⟩ := cq_jpower hm
    obtain ⟨r2, q2⟩ := cq_jpower hn
    obtain ⟨r3, q3⟩ := q_add r1 r2 ha
    obtain ⟨r4, q4⟩ := q_add rp rq hs
    obtain ⟨r5, q5⟩ := q_add r4 r4 ht
    refine q_uniq r5 r3 ?_
    rw [q5, q4, e, q3, q1, q2]
    grind
  · obtain ⟨u, w, h1, h2, h3, h4⟩ := powers_open h
    have k2 := ph_two hk
    rw [port_mk false hk hx hy] at h1
    rw [port_mk true hk hx hy] at h2
    have e1 : portS x y ((k + 2) % 4) false = some w := h2
    have e2 : portS x y ((k + 2) % 4) true = some u := by
      rw [← h1]
      unfold portS
      have : ((k + 2) % 4 + 2) % 4 = k := by rw [inB_iff] at hk; omega
      simp only [if_true, this, Bool.false_eq_true, if_false]
    unfold powersI
    rw [port_mk false k2 hx hy, port_mk true k2 hx hy, e1, e2]
    simp only [Option.bind_some, h3, h4]
/-- Energy is not made. -/
theorem keeps_law {a b : List UInt8} {k : Int} {v : Jn} {p q s n : Fr} (h : powersI a b k v = some (p, q)) (hs : addI p q = some s) (hn : jpowerI v = some n) : realOk s = true ∧ realOk n = true ∧ cmpV s n ≤ 0 := by
  obtain ⟨hk, x, y, hx, hy, rp, rq, e⟩ := powers_val h
  obtain ⟨r1, q1⟩ := q_add rp rq hs
  obtain ⟨r2, q2⟩ := cq_jpower hn
  refine ⟨r1, r2, ?_⟩
  have h1 := (run_keep hx).2.2
  have h2 := (run_keep hy).2.2
  have h3 := (cmpV_gt r1 r2).1
  by_cases hc : 0 < cmpV s n
  · have := h3 hc
    rw [q1, e, q2] at this
    grind
  · omega
theorem fringe_open {a b : List UInt8} {v : Jn} {k : Int} {f : Fr} (h : fringeI a b v k = some f) : ∃ o, portI a b k v false = some o ∧ jpowerI o = some f := by
  unfold fringeI at h
  cases ho : portI a b k v false with
  | none => rw [ho] at h; cases h
  | some o => rw [ho] at h; exact ⟨o, rfl, h⟩
theorem fringe_val {a b : List UInt8} {v x y : Jn} {k : Int} {f : Fr} (hx : runI a v = some x) (hy : runI b v = some y) (h : fringeI a b v k = some f) : inB k 0 3 = true ∧ realOk f = true ∧ qr f = (nJ x + nJ y + 2 * crossQ x y (qr (phF k)) (qi (phF k))) / 4 ∧ 0 ≤ qr f := by
  obtain ⟨o, h1, h2⟩ := fringe_open h
  obtain ⟨hk, u, w, hu, hw, r1, q1⟩ := port_jpower h1 h2
  rw [hu] at hx
  rw [hw] at hy
  obtain rfl := Option.some.inj hx
  obtain rfl := Option.some.inj hy
  refine ⟨hk, r1, q1, ?_⟩
  rw [(cq_jpower h2).2]
  exact nJ_nn o
theorem allM_four {f : Int → Option Fr} {a b c d : Int} {fs : List Fr} (h : allM f [a, b, c, d] = some fs) : ∃ f0 f1 f2 f3, fs = [f0, f1, f2, f3] ∧ f a = some f0 ∧ f b = some f1 ∧ f c = some f2 ∧ f d = some f3 := by
  obtain ⟨f0, t0, h0, k0, rfl⟩ := allM_cons h
  obtain ⟨f1, t1, h1, k1, rfl⟩ := allM_cons k0
  obtain ⟨f2, t2, h2, k2, rfl⟩ := allM_cons k1
  obtain ⟨f3, t3, h3, k3, rfl⟩ := allM_cons k2
  obtain rfl := Option.some.inj k3
  exact ⟨f0, f1, f2, f3, rfl, h0, h1, h2, h3⟩
theorem fringes_open {a b : List UInt8} {v : Jn} {fs : List Fr} (h : fringesI a b v = some fs) : ∃ f0 f1 f2 f3, fs = [f0, f1, f2, f3] ∧ fringeI a b v 0 = some f0 ∧ fringeI a b v 1 = some f1 ∧ fringeI a b v 2 = some f2 ∧ fringeI a b v 3 = some f3 := allM_four h
theorem fringes_arms {a b : List UInt8} {v : Jn} {k : Int} {f : Fr} (h : fringeI a b v k = some f) : ∃ x y, runI a v = some x ∧ runI b v = some y := by
  obtain ⟨o, h1, h2⟩ := fringe_open h
  obtain ⟨-, x, y, hx, hy, -⟩ := port_open h1
  exact ⟨x, y, hx, hy⟩
theorem fringes_real {a b : List UInt8} {v : Jn} {fs : List Fr} (h : fringesI a b v = some fs) : fs.length = 4 ∧ ∀ f ∈ fs, realOk f = true ∧ 0 ≤ qr f := by
  obtain ⟨f0, f1, f2, f3, rfl, h0, h1, h2, h3⟩ := fringes_open h
  obtain ⟨x, y, hx, hy⟩ := fringes_arms h0
  refine ⟨rfl, fun f hf => ?_⟩
  simp only [List.mem_cons, List.not_mem_nil, or_false] at hf
  rcases hf with rfl | rfl | rfl | rfl
  · exact ⟨(fringe_val hx hy h0).2.1, (fringe_val hx hy h0).2.2.2⟩
  · exact ⟨(fringe_val hx hy h1).2.1, (fringe_val hx hy h1).2.2.2⟩
  · exact ⟨(fringe_val hx hy h2).2.1, (fringe_val hx hy h2).2.2.2⟩
  · exact ⟨(fringe_val hx hy h3).2.1, (fringe_val hx hy h3).2.2.2⟩
theorem ph_q : (qr (phF 0) = 1 ∧ qi (phF 0) = 0) ∧ (qr (phF 1) = 0 ∧ qi (phF 1) = 1) ∧ (qr (phF 2) = -1 ∧ qi (phF 2) = 0) ∧ (qr (phF 3) = 0 ∧ qi (phF 3) = -1) := by decide +kernel
/-- Fringes are even. -/
theorem fringes_law {a b : List UInt8} {v : Jn} {f0 f1 f2 f3 x y : Fr} (h : fringesI a b v = some [f0, f1, f2, f3]) (h1 : addI f0 f2 = some x) (h2 : addI f1 f3 = some y) : x = y := by
  obtain ⟨g0, g1, g2, g3, e, k0, k1, k2, k3⟩ := fringes_open h
  simp only [List.cons.injEq, and_true] at e
  obtain ⟨rfl, rfl, rfl, rfl⟩ := e
  obtain ⟨u, w, hu, hw⟩ := fringes_arms k0
  obtain ⟨-, r0, q0, -⟩ := fringe_val hu hw k0
  obtain ⟨-, r1, q1, -⟩ := fringe_val hu hw k1
  obtain ⟨-, r2, q2, -⟩ := fringe_val hu hw k2
  obtain ⟨-, r3, q3, -⟩ := fringe_val hu hw k3
  obtain ⟨rx, qx⟩ := q_add r0 r2 h1
  obtain ⟨ry, qy⟩ := q_add r1 r3 h2
  refine q_uniq rx ry ?_
  obtain ⟨⟨p1, p2⟩, ⟨p3, p4⟩, ⟨p5, p6⟩, p7, p8⟩ := ph_q
  rw [p1, p2] at q0
  rw [p3, p4] at q1
  rw [p5, p6] at q2
  rw [p7, p8] at q3
  rw [qx, qy, q0, q1, q2, q3]
  unfold crossQ
  clear q0 q1 q2 q3 qx qy
  grind
theorem fringe_powers {a b : List UInt8} {v : Jn} {k : Int} {f p q : Fr} (h : fringeI a b v k = some f) (hp : powersI a b k v = some (p, q)) : p = f := by
  obtain ⟨o, h1, h2⟩ := fringe_open h
  obtain ⟨x, y, k1, -, k3, -⟩ := powers_open hp
  rw [k1] at h1
  obtain rfl := Option.some.inj h1
  rw [k3] at h2
  exact Option.some.inj h2
theorem cross_swap (x y : Jn) (g f : Rat) : crossQ y x g (-f) = crossQ x y g f := by
  unfold crossQ; grind
/-- Whether it is dark at some phase. -/
def darkI (a b : List UInt8) (v : Jn) : Bool := match fringesI a b v with
  | some fs => fs.any (· == ⟨0, 0, 1⟩)
  | none => false
theorem zero_q {f : Fr} (h : realOk f = true) : (f == ⟨0, 0, 1⟩) = true ↔ qr f = 0 := by
  rw [real_zero h, beq_iff_eq, q_zero h]
theorem dark_law {a b : List UInt8} {v : Jn} {gs : List Fr} (h : darkI a b v = true) (hg : fringesI b a v = some gs) : darkI b a v = true := by
  unfold darkI at h ⊢
  rw [hg]
  cases hf : fringesI a b v with
  | none => rw [hf] at h; cases h
  | some fs =>
    rw [hf] at h
    obtain ⟨f0, f1, f2, f3, rfl, k0, k1, k2, k3⟩ := fringes_open hf
    obtain ⟨g0, g1, g2, g3, rfl, l0, l1, l2, l3⟩ := fringes_open hg
    obtain ⟨u, w, hu, hw⟩ := fringes_arms k0
    obtain ⟨-, r0, q0, -⟩ := fringe_val hu hw k0
    obtain ⟨-, r1, q1, -⟩ := fringe_val hu hw k1
    obtain ⟨-, r2, q2, -⟩ := fringe_val hu hw k2
    obtain ⟨-, r3, q3, -⟩ := fringe_val hu hw k3
    obtain ⟨-, t0, s0, -⟩ := fringe_val hw hu l0
    obtain ⟨-, t1, s1, -⟩ := fringe_val hw hu l1
    obtain ⟨-, t2, s2, -⟩ := fringe_val hw hu l2
    obtain ⟨-, t3, s3, -⟩ := fringe_val hw hu l3
    obtain ⟨⟨p1, p2⟩, ⟨p3, p4⟩, ⟨p5, p6⟩, p7, p8⟩ := ph_q
    rw [p1, p2] at q0 s0
    rw [p3, p4] at q1 s1
    rw [p5, p6] at q2 s2
    rw [p7, p8] at q3 s3
    have c0 := cross_swap u w 1 0
    have c1 := cross_swap u w 0 1
    have c2 := cross_swap u w (-1) 0
    have c3 := cross_swap u w 0 (-1)
    have n0 : (-(0 : Rat)) = 0 := by decide +kernel
    have n1 : (-(-1 : Rat)) = 1 := by decide +kernel
    rw [n0] at c0 c2
    rw [n1] at c3
    have e0 : g0 = f0 := q_uniq t0 r0 (by rw [s0, q0, c0]; grind)
    have e1 : g3 = f1 := q_uniq t3 r1 (by rw [s3, q1, c1]; grind)
    have e2 : g2 = f2 := q_uniq t2 r2 (by rw [s2, q2, c2]; grind)
    have e3 : g1 = f3 := q_uniq t1 r3 (by rw [s1, q3, c3]; grind)
    subst e0 e1 e2 e3
    simp only [List.any_cons, List.any_nil, Bool.or_false, Bool.or_eq_true] at h ⊢
    grind
/-- Nothing is brighter. -/
theorem bright_law {a b : List UInt8} {v : Jn} {fs : List Fr} (h : fringesI a b v = some fs) : grt fs 4 ≤ 3 ∧ ∀ j, j < 4 → cmpV (atF fs j) (atF fs (grt fs 4)) ≤ 0 ∧ (cmpV (atF fs j) (atF fs (grt fs 4)) = 0 → grt fs 4 ≤ j) := by
  obtain ⟨hl, hr⟩ := fringes_real h
  have hr' := fun f hf => (hr f hf).1
  have hg := grt_lt fs 4
  refine ⟨by omega, fun j hj => ?_⟩
  obtain ⟨h1, h2⟩ := grt_spec hr' 4 (by omega) j hj
  have a1 := atF_real hr' (k := j) (by omega)
  have a2 := atF_real hr' (k := grt fs 4) (by omega)
  refine ⟨?_, fun e => h2 ((cmpV_eq a1 a2).1 e)⟩
  by_cases hc : 0 < cmpV (atF fs j) (atF fs (grt fs 4))
  · have := (cmpV_gt a1 a2).1 hc
    grind
  · omega
/-- What is seen. -/
def seenI (a b : List UInt8) (v : Jn) : Option Fr := (fringesI a b v).bind fun fs => (lessI (atF fs (grt fs 4)) (atF fs (lst fs 4))).bind fun t => (addI (atF fs (grt fs 4)) (atF fs (lst fs 4))).bind fun s => overI t s
theorem seen_law {a b : List UInt8} {v : Jn} {o : Fr} (h : seenI a b v = some o) : o.im = 0 ∧ 0 ≤ o.re ∧ o.re ≤ o.den ∧ (o == ⟨1, 0, 1⟩) = darkI a b v := by
  unfold seenI at h
  unfold darkI
  cases hf : fringesI a b v with
  | none => rw [hf] at h; cases h
  | some fs =>
    rw [hf, Option.bind_some] at h
    obtain ⟨hl, hr⟩ := fringes_real hf
    have hr' := fun f hf => (hr f hf).1
    have hg := grt_lt fs 4
    have hs := lst_lt fs 4
    have a1 := atF_real hr' (k := grt fs 4) (by omega)
    have a2 := atF_real hr' (k := lst fs 4) (by omega)
    have nn : ∀ j, j < 4 → 0 ≤ qr (atF fs j) := fun j hj => by
      unfold atF
      rw [List.getD_eq_getElem?_getD, List.getElem?_eq_getElem (by omega)]
      exact (hr _ (List.getElem_mem _)).2
    have hmax := fun j hj => (grt_spec hr' 4 (by omega) j hj).1
    have hmin := fun j hj => lst_spec hr' 4 (by omega) j hj
    cases ht : lessI (atF fs (grt fs 4)) (atF fs (lst fs 4)) with
    | none => rw [ht] at h; cases h
    | some t =>
      rw [ht, Option.bind_some] at h
      cases hS : addI (atF fs (grt fs 4)) (atF fs (lst fs 4)) with
      | none => rw [hS] at h; cases h
      | some s =>
        rw [hS, Option.bind_some] at h
        obtain ⟨rt, qt⟩ := q_less a1 a2 ht
        obtain ⟨rs, qs⟩ := q_add a1 a2 hS
        obtain ⟨ro, ns, e⟩ := q_over rt rs h
        have k1 := hmax (lst fs 4) (by omega)
        have k2 := nn (lst fs 4) (by omega)
        have k3 := nn (grt fs 4) (by omega)
        rw [qt, qs] at e
        rw [qs] at ns
        have od := q_pos (real_parts ro).2.2
        have om := qr_mul ro
        have hany : fs.any (· == ⟨0, 0, 1⟩) = true ↔ qr (atF fs (lst fs 4)) = 0 := by
          rw [List.any_eq_true]
          constructor
          · rintro ⟨f, hf1, hf2⟩
            have hz := (zero_q (hr' f hf1)).1 hf2
            obtain ⟨j, hj, rfl⟩ := List.getElem_of_mem hf1
            have := hmin j (by omega)
            unfold atF at this k2 ⊢
            rw [show fs.getD j ⟨0, 0, 0⟩ = fs[j] by rw [List.getD_eq_getElem?_getD, List.getElem?_eq_getElem hj]; rfl] at this
            grind
          · intro hz
            refine ⟨atF fs (lst fs 4), ?_, (zero_q a2).2 hz⟩
            unfold atF
            rw [List.getD_eq_getElem?_getD, List.getElem?_eq_getElem (by omega)]
            exact List.getElem_mem _
        have one1 : (o == ⟨1, 0, 1⟩) = true ↔ qr o = 1 := by
          constructor
          · intro h1
            rw [eq_of_beq h1]
            decide +kernel
          · intro h1
            have : o = ⟨1, 0, 1⟩ := q_uniq ro (by decide) (by rw [h1]; decide +kernel)
            rw [this]; decide
        generalize qr (atF fs (grt fs 4)) = H at *
        generalize qr (atF fs (lst fs 4)) = L at *
        have hp : 0 < H + L := by grind
        have b1 : 0 ≤ qr o := by
          by_cases hc : 0 ≤ qr o
          · exact hc
          · have := Rat.mul_pos (show 0 < -qr o by grind) hp
            grind
        have b2 : qr o ≤ 1 := by
          by_cases hc : qr o ≤ 1
          · exact hc
          · have := Rat.mul_pos (show 0 < qr o - 1 by grind) hp
            grind
        refine ⟨(real_parts ro).2.1, ?_, ?_, ?_⟩
        · have : (0 : Rat) ≤ (o.re : Rat) := by
            rw [← om]
            exact Rat.mul_nonneg b1 (Rat.le_of_lt od)
          exact Rat.intCast_le_intCast.1 (by simpa using this)
        · refine Rat.intCast_le_intCast.1 ?_
          rw [← om]
          have := Rat.mul_nonneg (show 0 ≤ 1 - qr o by grind) (Rat.le_of_lt od)
          grind
        · rw [Bool.eq_iff_iff, one1]
          show _ ↔ fs.any (· == ⟨0, 0, 1⟩) = true
          rw [hany]
          constructor
          · intro h1; rw [h1] at e; grind
          · intro h1
            rw [h1] at e hp
            have : (qr o - 1) * H = 0 := by grind
            rcases Rat.mul_eq_zero.1 this with h2 | h2
            · grind
            · grind
end
end Go.Proofs.YtjbnkefeacineaaGreatDoor
