/-
  What goes through a fibre comes back: the product of the way back is the matrix turned over, and no power is lost. Plain arithmetic.
-/
import Derived.Test.YtmaifiakjlbooaaDoorVh
import Derived.Test.YtmaifiakjlbooaaDoorGb
namespace Go.Proofs.YtmaifiakjlbooaaDoor
set_option linter.unusedSimpArgs false
set_option linter.unusedVariables false
open Go.RowKit
/-- The matrix mirrored and turned over. -/
def adjC (m : CM) : CM := ⟨m.x0, -m.y0, m.x2, -m.y2, m.x1, -m.y1, m.x3, -m.y3⟩
theorem adj_mul (a b : CM) : adjC (mulC a b) = mulC (adjC b) (adjC a) := by
  simp only [mulC, adjC, CM.mk.injEq]
  refine ⟨?_, ?_, ?_, ?_, ?_, ?_, ?_, ?_⟩ <;> grind
theorem adj_id : adjC idC = idC := by simp [adjC, idC]
/-- No light is lost. -/
def Uni (A : CM × Int) : Prop := mulC (adjC A.1) A.1 = smulC (A.2 * A.2) idC ∧ mulC A.1 (adjC A.1) = smulC (A.2 * A.2) idC
theorem uni_one : Uni (idC, 1) := by
  constructor <;> simp [mulC, adjC, smulC, idC]
theorem Uni.mul {A B : CM × Int} (h : Uni A) (k : Uni B) : Uni (mulC A.1 B.1, A.2 * B.2) := by
  have e : A.2 * A.2 * (B.2 * B.2) = A.2 * B.2 * (A.2 * B.2) := by grind
  constructor
  · show mulC (adjC (mulC A.1 B.1)) (mulC A.1 B.1) = smulC (A.2 * B.2 * (A.2 * B.2)) idC
    rw [adj_mul, mulC_assoc, ← mulC_assoc (adjC A.1) A.1 B.1, h.1, smul_mulC, id_mulC, mulC_smul, k.1, smul_smul, e]
  · show mulC (mulC A.1 B.1) (adjC (mulC A.1 B.1)) = smulC (A.2 * B.2 * (A.2 * B.2)) idC
    rw [adj_mul, mulC_assoc, ← mulC_assoc B.1 (adjC B.1) (adjC A.1), k.2, smul_mulC, id_mulC, mulC_smul, h.2, smul_smul, Int.mul_comm, e]
theorem wc_adj (c s a b : Int) : adjC (WC c s a b) = WC c s a (-b) := by
  simp only [WC, adjC, CM.mk.injEq]
  refine ⟨?_, ?_, ?_, ?_, ?_, ?_, ?_, ?_⟩ <;> grind
theorem wc_uni {c s n a b : Int} (hc : c * c + s * s = n * n) (hu : a * a + b * b = 1) : Uni (WC c s a b, n * n) := by
  have e1 : a * a - -b * b = 1 := by grind
  have e2 : a * b + -b * a = 0 := by grind
  have e3 : a * a - b * -b = 1 := by grind
  have e4 : a * -b + b * a = 0 := by grind
  constructor
  · show mulC (adjC (WC c s a b)) (WC c s a b) = smulC (n * n * (n * n)) idC
    rw [wc_adj, wc_mul hc, e1, e2, wc_one hc, smul_smul]
  · show mulC (WC c s a b) (adjC (WC c s a b)) = smulC (n * n * (n * n)) idC
    rw [wc_adj, wc_mul hc, e3, e4, wc_one hc, smul_smul]
theorem ph_one {k : Int} (h : inB k 0 3 = true) : phR k * phR k + phJ k * phJ k = 1 := by
  rw [inB_iff] at h
  rcases (show k = 0 ∨ k = 1 ∨ k = 2 ∨ k = 3 by omega) with rfl | rfl | rfl | rfl <;> decide
theorem wS_uni {s : Sec} (hs : secOk s = true) : Uni (wS s, nS s) := by
  have hk : inB s.ph 0 3 = true := by
    simp only [secOk, Bool.and_eq_true] at hs
    exact hs.1.2
  exact wc_uni wS_sq (ph_one hk)
theorem Uni.pow {A : CM × Int} (h : Uni A) : ∀ j : Nat, Uni (powC A.1 j, A.2 ^ j)
  | 0 => by
    rw [Int.pow_zero]
    exact uni_one
  | j + 1 => by
    have e : A.2 * A.2 ^ j = A.2 ^ (j + 1) := by rw [Int.pow_succ, Int.mul_comm]
    have k : Uni (mulC A.1 (powC A.1 j), A.2 * A.2 ^ j) := Uni.mul (A := A) (B := (powC A.1 j, A.2 ^ j)) h (Uni.pow h j)
    rw [e] at k
    exact k
theorem fold_uni : ∀ (xs : List Sec) (A : CM × Int), (∀ s ∈ xs, secOk s = true) → Uni A → Uni (xs.foldl pstep A)
  | [], _, _, h => h
  | s :: xs, A, hs, h => by
    have k : Uni (powC (wS s) s.t.toNat, nS s ^ s.t.toNat) := Uni.pow (A := (wS s, nS s)) (wS_uni (hs s (by simp))) _
    exact fold_uni xs (pstep A s) (fun z hz => hs z (by simp [hz])) (Uni.mul (A := (powC (wS s) s.t.toNat, nS s ^ s.t.toNat)) (B := A) k h)
theorem prodL_uni {xs : List Sec} (hs : ∀ s ∈ xs, secOk s = true) : Uni (prodL xs) := fold_uni xs _ hs uni_one
theorem fold_mul : ∀ (ys : List Sec) (A : CM × Int), ys.foldl pstep A = (mulC (prodL ys).1 A.1, (prodL ys).2 * A.2)
  | [], A => by
    show A = (mulC idC A.1, 1 * A.2)
    rw [id_mulC, Int.one_mul]
  | s :: ys, A => by
    have h1 := fold_mul ys (pstep A s)
    have h2 := fold_mul ys (pstep (idC, 1) s)
    have e : prodL (s :: ys) = ys.foldl pstep (pstep (idC, 1) s) := rfl
    rw [e, h2]
    show ys.foldl pstep (pstep A s) = _
    rw [h1]
    show (mulC (prodL ys).1 (mulC (powC (wS s) s.t.toNat) A.1), (prodL ys).2 * (nS s ^ s.t.toNat * A.2)) = (mulC (mulC (prodL ys).1 (mulC (powC (wS s) s.t.toNat) idC)) A.1, (prodL ys).2 * (nS s ^ s.t.toNat * 1) * A.2)
    rw [mulC_id, mulC_assoc, Int.mul_one, Int.mul_assoc]
theorem powC_snoc (a : CM) (j : Nat) : powC a (j + 1) = mulC (powC a j) a := by
  rw [powC_add, show powC a 1 = mulC a idC from rfl, mulC_id]
theorem adj_pow (a : CM) : ∀ j : Nat, adjC (powC a j) = powC (adjC a) j
  | 0 => adj_id
  | j + 1 => by
    rw [powC_snoc, adj_mul, adj_pow a j]
    rfl
theorem turn_w {s : Sec} (hs : secOk s = true) : wS (turnS s) = adjC (wS s) := by
  have hk : inB s.ph 0 3 = true := by
    simp only [secOk, Bool.and_eq_true] at hs
    exact hs.1.2
  have h : phR ((4 - s.ph).tmod 4) = phR s.ph ∧ phJ ((4 - s.ph).tmod 4) = -phJ s.ph := by
    rw [inB_iff] at hk
    generalize s.ph = k at hk
    rcases (show k = 0 ∨ k = 1 ∨ k = 2 ∨ k = 3 by omega) with rfl | rfl | rfl | rfl <;> decide
  unfold wS
  rw [wc_adj, ← h.2]
  show WC _ _ (phR ((4 - s.ph).tmod 4)) _ = _
  rw [h.1]
  rfl
/-- The way back is the matrix turned over. -/
theorem back_prod : ∀ (xs : List Sec), (∀ s ∈ xs, secOk s = true) → prodL (xs.reverse.map turnS) = (adjC (prodL xs).1, (prodL xs).2)
  | [], _ => by
    show (idC, (1 : Int)) = (adjC idC, 1)
    rw [adj_id]
  | s :: xs, h => by
    have ih := back_prod xs (fun z hz => h z (by simp [hz]))
    have hs := h s (by simp)
    have e : prodL (s :: xs) = xs.foldl pstep (pstep (idC, 1) s) := rfl
    rw [List.reverse_cons, List.map_append, List.map_cons, List.map_nil, prodL_snoc, ih, e, fold_mul]
    show (mulC (powC (wS (turnS s)) s.t.toNat) (adjC (prodL xs).1), nS s ^ s.t.toNat * (prodL xs).2) = (adjC (mulC (prodL xs).1 (mulC (powC (wS s) s.t.toNat) idC)), (prodL xs).2 * (nS s ^ s.t.toNat * 1))
    rw [turn_w hs, mulC_id, adj_mul, adj_pow, Int.mul_one, Int.mul_comm]
theorem back_ok {xs : List Sec} (h : fibOk xs = true) : fibOk (backI xs) = true := by
  rw [backI, if_pos h]
  simp only [fibOk, Bool.and_eq_true, decide_eq_true_eq, List.length_map, List.length_reverse] at h ⊢
  refine ⟨?_, h.2⟩
  rw [List.all_eq_true]
  intro z hz
  obtain ⟨s, hs, rfl⟩ := List.mem_map.1 hz
  have := List.all_eq_true.1 h.1 s (by simpa using hs)
  simp only [secOk, Bool.and_eq_true] at this ⊢
  refine ⟨⟨this.1.1, ?_⟩, this.2⟩
  have hk := this.1.2
  show inB ((4 - s.ph).tmod 4) 0 3 = true
  rw [inB_iff] at hk ⊢
  generalize s.ph = k at hk
  rcases (show k = 0 ∨ k = 1 ∨ k = 2 ∨ k = 3 by omega) with rfl | rfl | rfl | rfl <;> decide
theorem rc_one : RC oneM idC 1 := ⟨⟨by decide, by decide, by decide, by decide⟩, ⟨by decide, by decide, by decide, by decide⟩, ⟨by decide, by decide, by decide, by decide⟩, ⟨by decide, by decide, by decide, by decide⟩⟩
theorem fib_ok {xs : List Sec} {m : Mt} (h : fibMatI xs = some m) : fibOk xs = true := by
  unfold fibMatI at h
  split at h
  · assumption
  · cases h
theorem rc_back {xs : List Sec} {m : Mt} (h : fibOk xs = true) (hb : fibMatI (backI xs) = some m) : RC m (adjC (prodL xs).1) (prodL xs).2 := by
  have h1 := fib_rc hb
  have e : backI xs = xs.reverse.map turnS := by rw [backI, if_pos h]
  rw [e, back_prod xs (fibOk_all h)] at h1
  exact h1
/-- There and back: nothing has turned. -/
theorem back_one {xs : List Sec} {m n r : Mt} (hm : fibMatI xs = some m) (hn : fibMatI (backI xs) = some n) (hr : mtimesI n m = some r) : r = oneM := by
  have h := fib_ok hm
  refine rc_uniq (rc_times (rc_back h hn) (fib_rc hm) hr) rc_one ?_
  unfold Eqv
  rw [(prodL_uni (fibOk_all h)).1, smul_smul, Int.one_mul]
theorem rc_adj {m : Mt} {P : CM} {d : Int} (h : RC m P d) : ∃ a, madjI m = some a ∧ RC a (adjC P) d := by
  have h0 := rep_mirror h.a
  have h1 := rep_mirror h.b
  have h2 := rep_mirror h.c
  have h3 := rep_mirror h.d
  exact ⟨_, by rw [madjI, h0.1, h1.1, h2.1, h3.1]; rfl, h0.2, h2.2, h1.2, h3.2⟩
theorem fib_adj {xs : List Sec} {m : Mt} (hm : fibMatI xs = some m) : ∃ a, madjI m = some a ∧ ∀ r, mtimesI m a = some r → r = oneM := by
  have h := fib_ok hm
  obtain ⟨a, ha, hr⟩ := rc_adj (fib_rc hm)
  refine ⟨a, ha, fun r e => rc_uniq (rc_times (fib_rc hm) hr e) rc_one ?_⟩
  unfold Eqv
  rw [(prodL_uni (fibOk_all h)).2, smul_smul, Int.one_mul]
/-- A vector of whole complex numbers. -/
structure CV where
  x0 : Int
  y0 : Int
  x1 : Int
  y1 : Int
def appC (m : CM) (v : CV) : CV := ⟨(m.x0 * v.x0 - m.y0 * v.y0) + (m.x1 * v.x1 - m.y1 * v.y1), (m.x0 * v.y0 + m.y0 * v.x0) + (m.x1 * v.y1 + m.y1 * v.x1), (m.x2 * v.x0 - m.y2 * v.y0) + (m.x3 * v.x1 - m.y3 * v.y1), (m.x2 * v.y0 + m.y2 * v.x0) + (m.x3 * v.y1 + m.y3 * v.x1)⟩
def smulV (k : Int) (v : CV) : CV := ⟨k * v.x0, k * v.y0, k * v.x1, k * v.y1⟩
theorem appC_mul (a b : CM) (v : CV) : appC (mulC a b) v = appC a (appC b v) := by
  simp only [mulC, appC, CV.mk.injEq]
  refine ⟨?_, ?_, ?_, ?_⟩ <;> grind
theorem appC_smul (k : Int) (v : CV) : appC (smulC k idC) v = smulV k v := by
  simp [appC, smulC, idC, smulV]
theorem smulV_smulV (k l : Int) (v : CV) : smulV k (smulV l v) = smulV (k * l) v := by simp [smulV, Int.mul_assoc]
/-- The vector stands for these numbers. -/
structure RV (j : Jn) (v : CV) (d : Int) : Prop where
  x : Rep j.x v.x0 v.y0 d
  y : Rep j.y v.x1 v.y1 d
theorem RV.pos {j : Jn} {v : CV} {d : Int} (h : RV j v d) : 1 ≤ d := h.x.pos
theorem RV.valid {j : Jn} {v : CV} {d : Int} (h : RV j v d) : jvalid j = true := by simp [jvalid, h.x.ok, h.y.ok]
theorem rep_self {f : Fr} (h : fvalid f = true) : Rep f f.re f.im f.den := ⟨h, (fvalid_bd f h).2.2.1, rfl, rfl⟩
theorem rv_of {j : Jn} (h : jvalid j = true) : ∃ v d, RV j v d := by
  simp only [jvalid, Bool.and_eq_true] at h
  have bx := (fvalid_bd _ h.1).2.2.1
  have bd := (fvalid_bd _ h.2).2.2.1
  refine ⟨⟨j.y.den * j.x.re, j.y.den * j.x.im, j.x.den * j.y.re, j.x.den * j.y.im⟩, j.y.den * j.x.den, rep_scale bd (rep_self h.1), ?_⟩
  have k := rep_scale bx (rep_self h.2)
  rw [Int.mul_comm j.x.den j.y.den] at k
  exact k
theorem rv_apply {m : Mt} {v r : Jn} {a : CM} {u : CV} {d e : Int} (hm : RC m a d) (hv : RV v u e) (h : mapplyI m v = some r) : RV r (appC a u) (d * e) := by
  rw [mapplyI, show mvalid m = true from RM.valid hm, hv.valid] at h
  simp only [Bool.and_self, if_true] at h
  cases hx : innerI m.a v.x m.b v.y with
  | none => rw [hx] at h; cases h
  | some x =>
    cases hy : innerI m.c v.x m.d v.y with
    | none => rw [hx, hy] at h; cases h
    | some y =>
      rw [hx, hy] at h
      obtain rfl := Option.some.inj h
      exact ⟨val_inner hm.a hv.x hm.b hv.y hx, val_inner hm.c hv.x hm.d hv.y hy⟩
theorem rv_uniq {v r : Jn} {a b : CV} {d e : Int} (hv : RV v a d) (hr : RV r b e) (h : smulV e a = smulV d b) : v = r := by
  have hd := hv.pos
  have he := hr.pos
  simp only [smulV, CV.mk.injEq] at h
  obtain ⟨h0, h1, h2, h3⟩ := h
  have key : ∀ {f g : Fr} {x y u v : Int}, Rep f x y d → Rep g u v e → e * x = d * u → e * y = d * v → f = g := by
    intro f g x y u v hf hg e1 e2
    refine rep_uniq (rep_scale he hf) ?_
    have := rep_scale hd hg
    rwa [← e1, ← e2, Int.mul_comm d e] at this
  cases v; cases r
  simp only [Jn.mk.injEq]
  exact ⟨key hv.x hr.x h0 h1, key hv.y hr.y h2 h3⟩
theorem run_parts {xs : List Sec} {v w : Jn} (h : fibRunI xs v = some w) : ∃ m, fibMatI xs = some m ∧ mapplyI m v = some w := by
  unfold fibRunI at h
  cases hm : fibMatI xs with
  | none => rw [hm] at h; cases h
  | some m => rw [hm] at h; exact ⟨m, rfl, h⟩
theorem apply_valid {m : Mt} {v w : Jn} (h : mapplyI m v = some w) : jvalid v = true := by
  unfold mapplyI at h
  split at h
  · rename_i hh
    simp only [Bool.and_eq_true] at hh
    exact hh.2
  · cases h
/-- What went through comes back. -/
theorem run_back {xs : List Sec} {v w x : Jn} (h : fibRunI xs v = some w) (k : fibRunI (backI xs) w = some x) : x = v := by
  obtain ⟨m, hm, ha⟩ := run_parts h
  obtain ⟨n, hn, hb⟩ := run_parts k
  have hok := fib_ok hm
  obtain ⟨u, e, hv⟩ := rv_of (apply_valid ha)
  have h1 := rv_apply (rc_back hok hn) (rv_apply (fib_rc hm) hv ha) hb
  rw [← appC_mul, (prodL_uni (fibOk_all hok)).1, appC_smul] at h1
  refine rv_uniq h1 hv ?_
  rw [smulV_smulV, Int.mul_comm, Int.mul_assoc]
def nrm (v : CV) : Int := (v.x0 * v.x0 + v.y0 * v.y0) + (v.x1 * v.x1 + v.y1 * v.y1)
theorem nrm_app (P : CM) (u : CV) : nrm (appC P u) = (mulC (adjC P) P).x0 * (u.x0 * u.x0 + u.y0 * u.y0) + (mulC (adjC P) P).x3 * (u.x1 * u.x1 + u.y1 * u.y1) + 2 * ((mulC (adjC P) P).x1 * (u.x0 * u.x1 + u.y0 * u.y1) - (mulC (adjC P) P).y1 * (u.x0 * u.y1 - u.y0 * u.x1)) := by
  obtain ⟨a, b, c, d, e, f, g, h⟩ := P
  obtain ⟨p, q, r, s⟩ := u
  simp only [nrm, appC, mulC, adjC]
  grind
theorem nrm_uni {P : CM} {k : Int} (h : mulC (adjC P) P = smulC k idC) (u : CV) : nrm (appC P u) = k * nrm u := by
  rw [nrm_app, h]
  simp only [smulC, idC, nrm]
  grind
theorem val_power {f h : Fr} {x y d : Int} (hf : Rep f x y d) (hh : powerI f = some h) : Rep h (x * x + y * y) 0 (d * d) := by
  have e0 : powerI f = lowI (f.re * f.re + f.im * f.im) 0 (f.den * f.den) := by simp [powerI, hf.ok]
  rw [e0] at hh
  have k := mulbd1 f.den f.den hf.bd.1 hf.bd.2 hf.bd.1 hf.bd.2
  have kd : 1 ≤ d * d := pos_mul hf.pos hf.pos
  have h1 := hf.re; have h2 := hf.im
  refine rep_of_val k.1 kd hh ?_ (by simp)
  clear e0 k kd hf hh; grind
theorem val_jpower {v : Jn} {u : CV} {d : Int} {h : Fr} (hv : RV v u d) (hh : jpowerI v = some h) : Rep h (nrm u) 0 (d * d) := by
  rw [jpowerI, hv.valid] at hh
  simp only [if_true] at hh
  cases hx : powerI v.x with
  | none => rw [hx] at hh; cases hh
  | some x =>
    cases hy : powerI v.y with
    | none => rw [hx, hy] at hh; cases hh
    | some y =>
      rw [hx, hy] at hh
      exact val_add_same (val_power hv.x hx) (val_power hv.y hy) hh
/-- No power is lost. -/
theorem run_power {xs : List Sec} {v w : Jn} {a b : Fr} (h : fibRunI xs v = some w) (ha : jpowerI v = some a) (hb : jpowerI w = some b) : a = b := by
  obtain ⟨m, hm, hap⟩ := run_parts h
  have hok := fib_ok hm
  obtain ⟨u, e, hv⟩ := rv_of (apply_valid hap)
  have hr := fib_rc hm
  have hd := hr.pos
  have h1 := val_jpower (rv_apply hr hv hap) hb
  rw [nrm_uni (prodL_uni (fibOk_all hok)).1] at h1
  have h2 := rep_scale (pos_mul hd hd) (val_jpower hv ha)
  generalize (prodL xs).2 = d at *
  rw [show d * e * (d * e) = d * d * (e * e) by grind] at h1
  rw [Int.mul_zero] at h2
  exact rep_uniq h2 h1
end Go.Proofs.YtmaifiakjlbooaaDoor
