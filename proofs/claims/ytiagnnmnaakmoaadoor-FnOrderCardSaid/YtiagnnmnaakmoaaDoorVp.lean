/-
  What the products of a fibre stand for: short fibres, ways back, multiples, orders. Plain arithmetic.
-/
import Derived.Test.YtiagnnmnaakmoaaDoorVb
import Derived.Test.YtiagnnmnaakmoaaDoorVc
import Derived.Test.YtiagnnmnaakmoaaDoorGb
namespace Go.Proofs.YtiagnnmnaakmoaaDoor
set_option linter.unusedSimpArgs false
set_option linter.unusedVariables false
open Go.RowKit
/-- A matrix of whole complex numbers. -/
structure CM where
  x0 : Int
  y0 : Int
  x1 : Int
  y1 : Int
  x2 : Int
  y2 : Int
  x3 : Int
  y3 : Int
def mulC (m n : CM) : CM := ⟨(m.x0 * n.x0 - m.y0 * n.y0) + (m.x1 * n.x2 - m.y1 * n.y2), (m.x0 * n.y0 + m.y0 * n.x0) + (m.x1 * n.y2 + m.y1 * n.x2), (m.x0 * n.x1 - m.y0 * n.y1) + (m.x1 * n.x3 - m.y1 * n.y3), (m.x0 * n.y1 + m.y0 * n.x1) + (m.x1 * n.y3 + m.y1 * n.x3),
  (m.x2 * n.x0 - m.y2 * n.y0) + (m.x3 * n.x2 - m.y3 * n.y2), (m.x2 * n.y0 + m.y2 * n.x0) + (m.x3 * n.y2 + m.y3 * n.x2), (m.x2 * n.x1 - m.y2 * n.y1) + (m.x3 * n.x3 - m.y3 * n.y3), (m.x2 * n.y1 + m.y2 * n.x1) + (m.x3 * n.y3 + m.y3 * n.x3)⟩
def idC : CM := ⟨1, 0, 0, 0, 0, 0, 1, 0⟩
def smulC (k : Int) (m : CM) : CM := ⟨k * m.x0, k * m.y0, k * m.x1, k * m.y1, k * m.x2, k * m.y2, k * m.x3, k * m.y3⟩
theorem mulC_assoc (a b c : CM) : mulC (mulC a b) c = mulC a (mulC b c) := by
  simp only [mulC, CM.mk.injEq]
  refine ⟨?_, ?_, ?_, ?_, ?_, ?_, ?_, ?_⟩ <;> grind
theorem mulC_id (a : CM) : mulC a idC = a := by simp [mulC, idC]
theorem id_mulC (a : CM) : mulC idC a = a := by simp [mulC, idC]
theorem smul_mulC (k : Int) (a b : CM) : mulC (smulC k a) b = smulC k (mulC a b) := by
  simp only [mulC, smulC, CM.mk.injEq]
  refine ⟨?_, ?_, ?_, ?_, ?_, ?_, ?_, ?_⟩ <;> grind
theorem mulC_smul (k : Int) (a b : CM) : mulC a (smulC k b) = smulC k (mulC a b) := by
  simp only [mulC, smulC, CM.mk.injEq]
  refine ⟨?_, ?_, ?_, ?_, ?_, ?_, ?_, ?_⟩ <;> grind
theorem smul_smul (k l : Int) (a : CM) : smulC k (smulC l a) = smulC (k * l) a := by simp [smulC, Int.mul_assoc]
/-- The same up to the bottoms. -/
def Eqv (a : CM) (d : Int) (b : CM) (e : Int) : Prop := smulC e a = smulC d b
theorem Eqv.refl (a : CM) (d : Int) : Eqv a d a d := rfl
theorem Eqv.symm {a b : CM} {d e : Int} (h : Eqv a d b e) : Eqv b e a d := Eq.symm h
theorem smul_inj {k : Int} {a b : CM} (hk : 1 ≤ k) (h : smulC k a = smulC k b) : a = b := by
  simp only [smulC, CM.mk.injEq] at h
  obtain ⟨h0, h1, h2, h3, h4, h5, h6, h7⟩ := h
  cases a; cases b
  simp only [CM.mk.injEq]
  exact ⟨cancel hk h0, cancel hk h1, cancel hk h2, cancel hk h3, cancel hk h4, cancel hk h5, cancel hk h6, cancel hk h7⟩
theorem Eqv.trans {a b c : CM} {d e f : Int} (he : 1 ≤ e) (h : Eqv a d b e) (k : Eqv b e c f) : Eqv a d c f := by
  unfold Eqv at *
  apply smul_inj he
  rw [smul_smul, Int.mul_comm e f, ← smul_smul, h, smul_smul, Int.mul_comm f d, ← smul_smul, k, smul_smul, smul_smul, Int.mul_comm]
theorem Eqv.mul {a a' b b' : CM} {d d' e e' : Int} (h : Eqv a d a' d') (k : Eqv b e b' e') : Eqv (mulC a b) (d * e) (mulC a' b') (d' * e') := by
  unfold Eqv at *
  rw [← smul_smul, ← mulC_smul, ← smul_mulC, h, k, smul_mulC, mulC_smul, smul_smul]
/-- The matrix stands for these numbers. -/
def RC (m : Mt) (a : CM) (d : Int) : Prop := RM m a.x0 a.y0 a.x1 a.y1 a.x2 a.y2 a.x3 a.y3 d
theorem rc_times {m n r : Mt} {a b : CM} {d e : Int} (hm : RC m a d) (hn : RC n b e) (h : mtimesI m n = some r) : RC r (mulC a b) (d * e) := rm_times hm hn h
theorem rep_scale {f : Fr} {x y d k : Int} (hk : 1 ≤ k) (h : Rep f x y d) : Rep f (k * x) (k * y) (k * d) := by
  obtain ⟨h0, h1, h2, h3⟩ := h
  refine ⟨h0, ?_, ?_, ?_⟩
  · have := Int.mul_le_mul hk h1 (by omega) (by omega)
    omega
  · clear h3; grind
  · clear h2; grind
theorem RC.pos {m : Mt} {a : CM} {d : Int} (h : RC m a d) : 1 ≤ d := h.a.pos
def powC (a : CM) : Nat → CM
  | 0 => idC
  | j + 1 => mulC a (powC a j)
/-- A plate's power. -/
def WC (c s a b : Int) : CM := ⟨c * c + s * s * a, s * s * b, c * s * (1 - a), -(c * s * b), c * s * (1 - a), -(c * s * b), s * s + c * c * a, c * c * b⟩
def nS (s : Sec) : Int := (s.p * s.p + s.q * s.q) * (s.p * s.p + s.q * s.q)
def wS (s : Sec) : CM := WC (s.p * s.p - s.q * s.q) (2 * s.p * s.q) (phR s.ph) (phJ s.ph)
def pstep (A : CM × Int) (s : Sec) : CM × Int := (mulC (powC (wS s) s.t.toNat) A.1, nS s ^ s.t.toNat * A.2)
def prodL (xs : List Sec) : CM × Int := xs.foldl pstep (idC, 1)
theorem pow_pos' {n : Int} (h : 1 ≤ n) : ∀ j : Nat, 1 ≤ n ^ j
  | 0 => by simp
  | j + 1 => by
    have := Int.mul_le_mul (pow_pos' h j) h (by omega) (by have := pow_pos' h j; omega)
    rw [Int.pow_succ]
    omega
theorem mulN_rc {pl : Mt} {a b : CM} {d e : Int} (hp : RC pl a d) {m : Mt} (hm : RC m b e) : ∀ (j : Nat) (r : Mt), mulN pl j m = some r → RC r (mulC (powC a j) b) (d ^ j * e)
  | 0, r, h => by
    obtain rfl := Option.some.inj h
    rw [show powC a 0 = idC from rfl, id_mulC, Int.pow_zero, Int.one_mul]
    exact hm
  | j + 1, r, h => by
    rw [mulN] at h
    cases hx : mulN pl j m with
    | none => rw [hx] at h; cases h
    | some x =>
      rw [hx] at h
      have := rc_times hp (mulN_rc hp hm j x hx) h
      rw [show powC a (j + 1) = mulC a (powC a j) from rfl, mulC_assoc, Int.pow_succ, Int.mul_comm (d ^ j) d, Int.mul_assoc]
      exact this
theorem fold_rc : ∀ (ys : List Sec) (o : Option Mt) (A : CM × Int), (∀ m, o = some m → RC m A.1 A.2) → (∀ s ∈ ys, secOk s = true) → ∀ m, ys.foldl fibStep o = some m → RC m (ys.foldl pstep A).1 (ys.foldl pstep A).2
  | [], o, A, h, _, m, e => h m e
  | s :: ys, o, A, h, hok, m, e => by
    refine fold_rc ys (fibStep o s) (pstep A s) (fun r hr => ?_) (fun z hz => hok z (by simp [hz])) m e
    have hs := hok s (by simp)
    have hd : dirOk s.p s.q = true ∧ inB s.ph 0 3 = true := by
      simp only [secOk, Bool.and_eq_true] at hs
      exact hs.1
    cases ho : o with
    | none => rw [ho] at hr; cases hr
    | some x =>
      rw [ho] at hr
      have h1 : fibStep (some x) s = (plateI s.p s.q s.ph).bind fun pl => mulN pl s.t.toNat x := rfl
      rw [h1] at hr
      cases hpl : plateI s.p s.q s.ph with
      | none => rw [hpl] at hr; cases hr
      | some pl =>
        rw [hpl] at hr
        exact mulN_rc (show RC pl (wS s) (nS s) from plate_rw hd.1 hd.2 hpl) (h x ho) _ r hr
theorem fib_rc {xs : List Sec} {m : Mt} (h : fibMatI xs = some m) : RC m (prodL xs).1 (prodL xs).2 := by
  unfold fibMatI at h
  split at h
  · rename_i hf
    rw [fibK, List.take_length] at h
    refine fold_rc xs (some oneM) (idC, 1) (fun r hr => ?_) (fun s hs => ?_) m h
    · obtain rfl := Option.some.inj hr
      refine ⟨⟨by decide, by decide, by decide, by decide⟩, ⟨by decide, by decide, by decide, by decide⟩, ⟨by decide, by decide, by decide, by decide⟩, ⟨by decide, by decide, by decide, by decide⟩⟩
    · simp only [fibOk, Bool.and_eq_true] at hf
      exact List.all_eq_true.1 hf.1 s hs
  · cases h
/-- Two products up to a factor. -/
def Same (A B : CM × Int) : Prop := (1 ≤ A.2 ∧ 1 ≤ B.2) ∧ Eqv A.1 A.2 B.1 B.2
theorem Same.refl {A : CM × Int} (h : 1 ≤ A.2) : Same A A := ⟨⟨h, h⟩, Eqv.refl _ _⟩
theorem Same.trans {A B C : CM × Int} (h : Same A B) (k : Same B C) : Same A C := ⟨⟨h.1.1, k.1.2⟩, h.2.trans h.1.2 k.2⟩
theorem Same.symm {A B : CM × Int} (h : Same A B) : Same B A := ⟨⟨h.1.2, h.1.1⟩, h.2.symm⟩
theorem pos_mul {a b : Int} (ha : 1 ≤ a) (hb : 1 ≤ b) : 1 ≤ a * b := by
  have := Int.mul_le_mul ha hb (by omega) (by omega)
  omega
theorem Same.step {A B : CM × Int} (h : Same A B) {s : Sec} (hs : 1 ≤ nS s) : Same (pstep A s) (pstep B s) :=
  ⟨⟨pos_mul (pow_pos' hs _) h.1.1, pos_mul (pow_pos' hs _) h.1.2⟩, Eqv.mul (Eqv.refl _ _) h.2⟩
/-- The matrix mirrored and turned over. -/
def adjC (m : CM) : CM := ⟨m.x0, -m.y0, m.x2, -m.y2, m.x1, -m.y1, m.x3, -m.y3⟩
theorem adj_mul (a b : CM) : adjC (mulC a b) = mulC (adjC b) (adjC a) := by
  simp only [mulC, adjC, CM.mk.injEq]
  refine ⟨?_, ?_, ?_, ?_, ?_, ?_, ?_, ?_⟩ <;> grind
/-- No light is lost. -/
def Uni (A : CM × Int) : Prop := mulC (adjC A.1) A.1 = smulC (A.2 * A.2) idC ∧ mulC A.1 (adjC A.1) = smulC (A.2 * A.2) idC
theorem Uni.mul {A B : CM × Int} (h : Uni A) (k : Uni B) : Uni (mulC A.1 B.1, A.2 * B.2) := by
  have e : A.2 * A.2 * (B.2 * B.2) = A.2 * B.2 * (A.2 * B.2) := by grind
  constructor
  · show mulC (adjC (mulC A.1 B.1)) (mulC A.1 B.1) = smulC (A.2 * B.2 * (A.2 * B.2)) idC
    rw [adj_mul, mulC_assoc, ← mulC_assoc (adjC A.1) A.1 B.1, h.1, smul_mulC, id_mulC, mulC_smul, k.1, smul_smul, e]
  · show mulC (mulC A.1 B.1) (adjC (mulC A.1 B.1)) = smulC (A.2 * B.2 * (A.2 * B.2)) idC
    rw [adj_mul, mulC_assoc, ← mulC_assoc B.1 (adjC B.1) (adjC A.1), k.2, smul_mulC, id_mulC, mulC_smul, h.2, smul_smul, Int.mul_comm, e]
/-- A vector of whole complex numbers. -/
structure CV where
  x0 : Int
  y0 : Int
  x1 : Int
  y1 : Int
def appC (m : CM) (v : CV) : CV := ⟨(m.x0 * v.x0 - m.y0 * v.y0) + (m.x1 * v.x1 - m.y1 * v.y1), (m.x0 * v.y0 + m.y0 * v.x0) + (m.x1 * v.y1 + m.y1 * v.x1), (m.x2 * v.x0 - m.y2 * v.y0) + (m.x3 * v.x1 - m.y3 * v.y1), (m.x2 * v.y0 + m.y2 * v.x0) + (m.x3 * v.y1 + m.y3 * v.x1)⟩
def smulV (k : Int) (v : CV) : CV := ⟨k * v.x0, k * v.y0, k * v.x1, k * v.y1⟩
theorem appC_mul (a b : CM) (v : CV) : appC (mulC a b) v = appC a (appC b v) := by
  simp only [mulC, appC, CV.mk.injEq]
  refine ⟨?_, ?_, ?_, ?_⟩ <;> grind
/-- The vector stands for these numbers. -/
structure RV (j : Jn) (v : CV) (d : Int) : Prop where
  x : Rep j.x v.x0 v.y0 d
  y : Rep j.y v.x1 v.y1 d
theorem RV.pos {j : Jn} {v : CV} {d : Int} (h : RV j v d) : 1 ≤ d := h.x.pos
theorem RV.valid {j : Jn} {v : CV} {d : Int} (h : RV j v d) : jvalid j = true := by simp [jvalid, h.x.ok, h.y.ok]
theorem rep_self {f : Fr} (h : fvalid f = true) : Rep f f.re f.im f.den := ⟨h, (fvalid_bd f h).2.2.1, rfl, rfl⟩
theorem rv_of {j : Jn} (h : jvalid j = true) : ∃ v d, RV j v d := by
  simp only [jvalid, Bool.and_eq_true] at h
  have bx := (fvalid_bd _ h.1).2.2.1
  have bd := (fvalid_bd _ h.2).2.2.1
  refine ⟨⟨j.y.den * j.x.re, j.y.den * j.x.im, j.x.den * j.y.re, j.x.den * j.y.im⟩, j.y.den * j.x.den, rep_scale bd (rep_self h.1), ?_⟩
  have k := rep_scale bx (rep_self h.2)
  rw [Int.mul_comm j.x.den j.y.den] at k
  exact k
theorem rv_apply {m : Mt} {v r : Jn} {a : CM} {u : CV} {d e : Int} (hm : RC m a d) (hv : RV v u e) (h : mapplyI m v = some r) : RV r (appC a u) (d * e) := by
  rw [mapplyI, show mvalid m = true from RM.valid hm, hv.valid] at h
  simp only [Bool.and_self, if_true] at h
  cases hx : innerI m.a v.x m.b v.y with
  | none => rw [hx] at h; cases h
  | some x =>
    cases hy : innerI m.c v.x m.d v.y with
    | none => rw [hx, hy] at h; cases h
    | some y =>
      rw [hx, hy] at h
      obtain rfl := Option.some.inj h
      exact ⟨val_inner hm.a hv.x hm.b hv.y hx, val_inner hm.c hv.x hm.d hv.y hy⟩
theorem rv_uniq {v r : Jn} {a b : CV} {d e : Int} (hv : RV v a d) (hr : RV r b e) (h : smulV e a = smulV d b) : v = r := by
  have hd := hv.pos
  have he := hr.pos
  simp only [smulV, CV.mk.injEq] at h
  obtain ⟨h0, h1, h2, h3⟩ := h
  have key : ∀ {f g : Fr} {x y u v : Int}, Rep f x y d → Rep g u v e → e * x = d * u → e * y = d * v → f = g := by
    intro f g x y u v hf hg e1 e2
    refine rep_uniq (rep_scale he hf) ?_
    have := rep_scale hd hg
    rwa [← e1, ← e2, Int.mul_comm d e] at this
  cases v; cases r
  simp only [Jn.mk.injEq]
  exact ⟨key hv.x hr.x h0 h1, key hv.y hr.y h2 h3⟩
theorem run_parts {xs : List Sec} {v w : Jn} (h : fibRunI xs v = some w) : ∃ m, fibMatI xs = some m ∧ mapplyI m v = some w := by
  unfold fibRunI at h
  cases hm : fibMatI xs with
  | none => rw [hm] at h; cases h
  | some m => rw [hm] at h; exact ⟨m, rfl, h⟩
theorem apply_valid {m : Mt} {v w : Jn} (h : mapplyI m v = some w) : jvalid v = true := by
  unfold mapplyI at h
  split at h
  · rename_i hh
    simp only [Bool.and_eq_true] at hh
    exact hh.2
  · cases h
/-- Whether light stays the same in a fibre. -/
def fibStaysI (xs : List Sec) (v : Jn) : Bool := match fibRunI xs v with
  | none => false
  | some u => !jdark v && jalikeI v u
theorem rep_inj {f : Fr} {x y u v d : Int} (h : Rep f x y d) (k : Rep f u v d) : x = u ∧ y = v := by
  have b := h.bd
  have h1 := h.re; have h2 := h.im; have h3 := k.re; have h4 := k.im
  refine ⟨cancel (k := f.den) b.1 ?_, cancel (k := f.den) b.1 ?_⟩
  · rw [Int.mul_comm, ← h1, h3, Int.mul_comm]
  · rw [Int.mul_comm, ← h2, h4, Int.mul_comm]
theorem lowI_self {a : Fr} (ha : fvalid a = true) : lowI a.re a.im a.den = some a := by
  have hg := fvalid_gcd a ha
  have hb := fvalid_bd a ha
  unfold lowI
  simp only [hg, Int.tdiv_one, Int.ediv_one]
  rw [if_pos]
  simp only [Bool.and_eq_true, inB_iff, Bool.not_eq_true', decide_eq_false_iff_not]
  exact ⟨⟨hb.1, hb.2.1⟩, by omega⟩
/-- A fraction times i. -/
def jF (f : Fr) : Fr := ⟨-f.im, f.re, f.den⟩
theorem jF_valid {f : Fr} (h : fvalid f = true) : fvalid (jF f) = true := by
  have b := fvalid_bd f h
  have g := fvalid_gcd f h
  have e : gcd3 (-f.im) f.re f.den = gcd3 f.re f.im f.den := by
    simp only [gcd3, gcdI, absI, Int.natAbs_neg]
    congr 3
    exact congrArg _ (Nat.gcd_comm _ _)
  simp only [jF, fvalid, e, g, Bool.and_eq_true, inB_iff, beq_self_eq_true, and_true]
  omega
theorem times_j {f : Fr} (h : fvalid f = true) : timesI f ⟨0, 1, 1⟩ = some (jF f) := by
  have e : lowI (-f.im) f.re f.den = some (jF f) := lowI_self (jF_valid h)
  rw [timesI, h, show fvalid ⟨0, 1, 1⟩ = true by decide]
  simpa using e
theorem rep_j {f : Fr} {x y d : Int} (h : Rep f x y d) : Rep (jF f) (-y) x d := by
  refine ⟨jF_valid h.ok, h.pos, ?_, h.re⟩
  show -f.im * d = -y * f.den
  rw [Int.neg_mul, Int.neg_mul, h.im]
def jJ (v : Jn) : Jn := ⟨jF v.x, jF v.y⟩
theorem jtimes_j {v : Jn} (h : jvalid v = true) : jtimesI v ⟨0, 1, 1⟩ = some (jJ v) := by
  simp only [jvalid, Bool.and_eq_true] at h
  rw [jtimesI, times_j h.1, times_j h.2]
  rfl
def jV (u : CV) : CV := ⟨-u.y0, u.x0, -u.y1, u.x1⟩
theorem rv_j {v : Jn} {u : CV} {d : Int} (h : RV v u d) : RV (jJ v) (jV u) d := ⟨rep_j h.x, rep_j h.y⟩
theorem app_j (P : CM) (u : CV) : appC P (jV u) = jV (appC P u) := by
  simp only [appC, jV, CV.mk.injEq]
  refine ⟨?_, ?_, ?_, ?_⟩ <;> grind
theorem rep_zero_iff {f : Fr} {x y d : Int} (h : Rep f x y d) : (f == ⟨0, 0, 1⟩) = true ↔ x = 0 ∧ y = 0 := by
  have z : Rep ⟨0, 0, 1⟩ 0 0 d := ⟨by decide, h.pos, by simp, by simp⟩
  constructor
  · intro e
    have e := eq_of_beq e
    rw [e] at h
    exact rep_inj h z
  · rintro ⟨rfl, rfl⟩
    rw [rep_uniq h z]
    exact beq_self_eq_true _
theorem rv_dark {v : Jn} {u : CV} {d : Int} (h : RV v u d) : jdark v = true ↔ (u.x0 = 0 ∧ u.y0 = 0) ∧ u.x1 = 0 ∧ u.y1 = 0 := by
  rw [jdark, Bool.and_eq_true, rep_zero_iff h.x, rep_zero_iff h.y]
theorem dark_j {v : Jn} {u : CV} {d : Int} (h : RV v u d) : jdark (jJ v) = jdark v := by
  rw [Bool.eq_iff_iff, rv_dark h, rv_dark (rv_j h)]
  simp only [jV]
  omega
theorem alike_j {v w : Jn} {u W : CV} {d e : Int} (hv : RV v u d) (hw : RV w W e) (h : jalikeI v w = true) (f g : Fr) (h1 : timesI (jJ v).x (jJ w).y = some f) (h2 : timesI (jJ v).y (jJ w).x = some g) : jalikeI (jJ v) (jJ w) = true := by
  simp only [jalikeI, Bool.and_eq_true, beq_iff_eq] at h
  obtain ⟨⟨⟨⟨⟨-, -⟩, a1⟩, a2⟩, a3⟩, a4⟩ := h
  obtain ⟨r, hr⟩ := Option.isSome_iff_exists.1 a1
  have hr2 := hr
  rw [a3] at hr2
  obtain ⟨e1, e2⟩ := rep_inj (val_times hv.x hw.y hr) (val_times hv.y hw.x hr2)
  have hf := val_times (rv_j hv).x (rv_j hw).y h1
  have hg := val_times (rv_j hv).y (rv_j hw).x h2
  have hfg : f = g := by
    refine rep_uniq hf ?_
    simp only [jV] at hf hg ⊢
    rw [show -u.y0 * -W.y1 - u.x0 * W.x1 = -u.y1 * -W.y0 - u.x1 * W.x0 by clear hf hg h1 h2 hr hr2 hv hw; grind, show -u.y0 * W.x1 + u.x0 * -W.y1 = -u.y1 * W.x0 + u.x1 * -W.y0 by clear hf hg h1 h2 hr hr2 hv hw; grind]
    exact hg
  simp only [jalikeI, (rv_j hv).valid, (rv_j hw).valid, h1, h2, hfg, dark_j hv, dark_j hw, a4]
  simp
theorem stays_turn {xs : List Sec} {v t w : Jn} {f g : Fr} (h : fibStaysI xs v = true) (ht : jtimesI v ⟨0, 1, 1⟩ = some t) (hw : fibRunI xs t = some w) (h1 : timesI t.x w.y = some f) (h2 : timesI t.y w.x = some g) : fibStaysI xs t = true := by
  unfold fibStaysI at h
  cases hx : fibRunI xs v with
  | none => rw [hx] at h; cases h
  | some w0 =>
    rw [hx] at h
    simp only [Bool.and_eq_true] at h
    obtain ⟨m, hm, ha⟩ := run_parts hx
    obtain ⟨n, hn, hb⟩ := run_parts hw
    obtain rfl := Option.some.inj (hm.symm.trans hn)
    have hvv := apply_valid ha
    obtain ⟨u, e, hv⟩ := rv_of hvv
    obtain rfl := Option.some.inj ((jtimes_j hvv).symm.trans ht)
    have hr := fib_rc hm
    have hW := rv_apply hr hv ha
    have hT := rv_apply hr (rv_j hv) hb
    rw [app_j] at hT
    have hwj : w = jJ w0 := rv_uniq hT (rv_j hW) rfl
    subst hwj
    unfold fibStaysI
    rw [hw]
    simp only [Bool.and_eq_true]
    rw [dark_j hv]
    exact ⟨h.1, alike_j hv hW h.2 f g h1 h2⟩
theorem stays_told {xs : List Sec} {v : Jn} (h : fibStaysI xs v = true) : jtimesI v ⟨0, 1, 1⟩ = some (jJ v) := by
  unfold fibStaysI at h
  cases hx : fibRunI xs v with
  | none => rw [hx] at h; cases h
  | some w0 =>
    obtain ⟨m, hm, ha⟩ := run_parts hx
    exact jtimes_j (apply_valid ha)
/-- The matrix is one, up to a factor that is not 0. -/
def oneLike (p : Mt) : Bool := p.b == ⟨0, 0, 1⟩ && p.c == ⟨0, 0, 1⟩ && p.a == p.d && !(p.a == ⟨0, 0, 1⟩)
/-- How many times a matrix is applied until nothing has turned; 0: not found. -/
def ordL (m : Mt) : Nat → Int → Mt → Int
  | 0, _, _ => 0
  | f + 1, n, p => if oneLike p then n else match mtimesI m p with
    | none => 0
    | some q => ordL m f (n + 1) q
def fibOrderI (xs : List Sec) : Option Int := (fibMatI xs).map fun m => ordL m 24 1 m
theorem ordL_found {m : Mt} {P : CM} {d : Int} (hm : RC m P d) : ∀ (f : Nat) (j : Nat) (p : Mt) (k : Int), RC p (powC P j) (d ^ j) → ordL m f j p = k → k ≠ 0 → ∃ (i : Nat) (q : Mt), k = i ∧ i < j + f ∧ RC q (powC P i) (d ^ i) ∧ oneLike q = true
  | 0, j, p, k, _, h, hk => absurd h.symm hk
  | f + 1, j, p, k, hp, h, hk => by
    rw [ordL] at h
    split at h
    · rename_i ho
      exact ⟨j, p, h.symm, by omega, hp, ho⟩
    · cases hq : mtimesI m p with
      | none => rw [hq] at h; exact absurd h.symm hk
      | some q =>
        rw [hq] at h
        have hr := rc_times hm hp hq
        have e : d * d ^ j = d ^ (j + 1) := by rw [Int.pow_succ, Int.mul_comm]
        rw [e] at hr
        obtain ⟨i, q', e1, e2, e3, e4⟩ := ordL_found hm f (j + 1) q k hr h hk
        exact ⟨i, q', e1, by omega, e3, e4⟩
/-- Light sent through so many times. -/
def appN (m : Mt) (v : Jn) : Nat → Option Jn
  | 0 => some v
  | n + 1 => (appN m v n).bind fun w => mapplyI m w
theorem appN_rv {m : Mt} {P : CM} {v : Jn} {u : CV} {d e : Int} (hm : RC m P d) (hv : RV v u e) : ∀ (n : Nat) (w : Jn), appN m v n = some w → RV w (appC (powC P n) u) (d ^ n * e)
  | 0, w, h => by
    obtain rfl := Option.some.inj h
    have : appC (powC P 0) u = u := by simp [powC, appC, idC]
    rw [this, Int.pow_zero, Int.one_mul]
    exact hv
  | n + 1, w, h => by
    rw [appN] at h
    cases hx : appN m v n with
    | none => rw [hx] at h; cases h
    | some x =>
      rw [hx] at h
      have := rv_apply hm (appN_rv hm hv n x hx) h
      rw [← appC_mul, ← Int.mul_assoc, Int.mul_comm d (d ^ n), ← Int.pow_succ] at this
      exact this
/-- The light that is sent. -/
def v1i : Jn := ⟨⟨1, 0, 1⟩, ⟨0, 1, 1⟩⟩
theorem rv_1i : RV v1i ⟨1, 0, 0, 1⟩ 1 := ⟨⟨by decide, by decide, by decide, by decide⟩, ⟨by decide, by decide, by decide, by decide⟩⟩
theorem order_back {xs : List Sec} {m : Mt} {n : Nat} {w : Jn} {f g : Fr} (hm : fibMatI xs = some m) (hn : ordL m 24 1 m = (n : Int)) (h0 : n ≠ 0) (hw : appN m v1i n = some w) (h1 : timesI v1i.x w.y = some f) (h2 : timesI v1i.y w.x = some g) : jalikeI v1i w = true := by
  have hr := fib_rc hm
  generalize (prodL xs).1 = P at hr
  generalize (prodL xs).2 = d at hr
  have hr1 : RC m (powC P 1) (d ^ 1) := by
    rw [show powC P 1 = mulC P idC from rfl, mulC_id, show d ^ 1 = d by rw [Int.pow_succ, Int.pow_zero, Int.one_mul]]
    exact hr
  obtain ⟨i, q, e1, -, hq, ho⟩ := ordL_found hr 24 1 m n hr1 hn (by omega)
  obtain rfl : n = i := by omega
  have hwv := appN_rv hr rv_1i n w hw
  simp only [oneLike, Bool.and_eq_true, Bool.not_eq_true'] at ho
  obtain ⟨⟨⟨ob, oc⟩, oad⟩, oa⟩ := ho
  obtain ⟨b0, b1⟩ := (rep_zero_iff hq.b).1 ob
  obtain ⟨c0, c1⟩ := (rep_zero_iff hq.c).1 oc
  have had := hq.d
  rw [← eq_of_beq oad] at had
  obtain ⟨a0, a1⟩ := rep_inj hq.a had
  have hnz : ¬ ((powC P n).x0 = 0 ∧ (powC P n).y0 = 0) := by
    rw [← rep_zero_iff hq.a, oa]
    simp
  generalize powC P n = Q at *
  have hW : RV w ⟨Q.x0, Q.y0, -Q.y0, Q.x0⟩ (d ^ n * 1) := by
    have e : appC Q ⟨1, 0, 0, 1⟩ = ⟨Q.x0, Q.y0, -Q.y0, Q.x0⟩ := by
      simp only [appC, b0, b1, c0, c1, ← a0, ← a1, CV.mk.injEq]
      omega
    rw [e] at hwv
    exact hwv
  have hf := val_times rv_1i.x hW.y h1
  have hg := val_times rv_1i.y hW.x h2
  have hfg : f = g := by
    refine rep_uniq hf ?_
    simp only [Int.one_mul, Int.zero_mul, Int.zero_add, Int.add_zero, Int.sub_zero, Int.zero_sub] at hf hg ⊢
    exact hg
  have hdk : jdark w = false := by
    rw [Bool.eq_false_iff]
    intro h
    exact hnz ((rv_dark hW).1 h).1
  simp only [jalikeI, rv_1i.valid, hW.valid, h1, h2, hfg, hdk]
  simp
  decide
theorem ordL_bd (m : Mt) : ∀ (f : Nat) (j : Int) (p : Mt), 1 ≤ j → 0 ≤ ordL m f j p ∧ ordL m f j p ≤ j + f - 1
  | 0, j, p, h => by rw [ordL]; omega
  | f + 1, j, p, h => by
    rw [ordL]
    split
    · omega
    · split
      · omega
      · rename_i q _
        have := ordL_bd m f (j + 1) q (by omega)
        omega
end Go.Proofs.YtiagnnmnaakmoaaDoor
