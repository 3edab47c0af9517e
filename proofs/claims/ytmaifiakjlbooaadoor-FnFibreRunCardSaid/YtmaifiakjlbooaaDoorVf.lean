/-
  Products of matrices of whole complex numbers, up to a common factor: what the products of a fibre stand for. Plain arithmetic.
-/
import Derived.Test.YtmaifiakjlbooaaDoorVb
namespace Go.Proofs.YtmaifiakjlbooaaDoor
set_option linter.unusedSimpArgs false
set_option linter.unusedVariables false
open Go.RowKit
/-- A matrix of whole complex numbers. -/
structure CM where
  x0 : Int
  y0 : Int
  x1 : Int
  y1 : Int
  x2 : Int
  y2 : Int
  x3 : Int
  y3 : Int
def mulC (m n : CM) : CM := ⟨(m.x0 * n.x0 - m.y0 * n.y0) + (m.x1 * n.x2 - m.y1 * n.y2), (m.x0 * n.y0 + m.y0 * n.x0) + (m.x1 * n.y2 + m.y1 * n.x2), (m.x0 * n.x1 - m.y0 * n.y1) + (m.x1 * n.x3 - m.y1 * n.y3), (m.x0 * n.y1 + m.y0 * n.x1) + (m.x1 * n.y3 + m.y1 * n.x3),
  (m.x2 * n.x0 - m.y2 * n.y0) + (m.x3 * n.x2 - m.y3 * n.y2), (m.x2 * n.y0 + m.y2 * n.x0) + (m.x3 * n.y2 + m.y3 * n.x2), (m.x2 * n.x1 - m.y2 * n.y1) + (m.x3 * n.x3 - m.y3 * n.y3), (m.x2 * n.y1 + m.y2 * n.x1) + (m.x3 * n.y3 + m.y3 * n.x3)⟩
def idC : CM := ⟨1, 0, 0, 0, 0, 0, 1, 0⟩
def smulC (k : Int) (m : CM) : CM := ⟨k * m.x0, k * m.y0, k * m.x1, k * m.y1, k * m.x2, k * m.y2, k * m.x3, k * m.y3⟩
theorem mulC_assoc (a b c : CM) : mulC (mulC a b) c = mulC a (mulC b c) := by
  simp only [mulC, CM.mk.injEq]
  refine ⟨?_, ?_, ?_, ?_, ?_, ?_, ?_, ?_⟩ <;> grind
theorem mulC_id (a : CM) : mulC a idC = a := by simp [mulC, idC]
theorem id_mulC (a : CM) : mulC idC a = a := by simp [mulC, idC]
theorem smul_mulC (k : Int) (a b : CM) : mulC (smulC k a) b = smulC k (mulC a b) := by
  simp only [mulC, smulC, CM.mk.injEq]
  refine ⟨?_, ?_, ?_, ?_, ?_, ?_, ?_, ?_⟩ <;> grind
theorem mulC_smul (k : Int) (a b : CM) : mulC a (smulC k b) = smulC k (mulC a b) := by
  simp only [mulC, smulC, CM.mk.injEq]
  refine ⟨?_, ?_, ?_, ?_, ?_, ?_, ?_, ?_⟩ <;> grind
theorem smul_smul (k l : Int) (a : CM) : smulC k (smulC l a) = smulC (k * l) a := by simp [smulC, Int.mul_assoc]
/-- The same up to the bottoms. -/
def Eqv (a : CM) (d : Int) (b : CM) (e : Int) : Prop := smulC e a = smulC d b
theorem Eqv.refl (a : CM) (d : Int) : Eqv a d a d := rfl
theorem Eqv.symm {a b : CM} {d e : Int} (h : Eqv a d b e) : Eqv b e a d := Eq.symm h
theorem smul_inj {k : Int} {a b : CM} (hk : 1 ≤ k) (h : smulC k a = smulC k b) : a = b := by
  simp only [smulC, CM.mk.injEq] at h
  obtain ⟨h0, h1, h2, h3, h4, h5, h6, h7⟩ := h
  cases a; cases b
  simp only [CM.mk.injEq]
  exact ⟨cancel hk h0, cancel hk h1, cancel hk h2, cancel hk h3, cancel hk h4, cancel hk h5, cancel hk h6, cancel hk h7⟩
theorem Eqv.trans {a b c : CM} {d e f : Int} (he : 1 ≤ e) (h : Eqv a d b e) (k : Eqv b e c f) : Eqv a d c f := by
  unfold Eqv at *
  apply smul_inj he
  rw [smul_smul, Int.mul_comm e f, ← smul_smul, h, smul_smul, Int.mul_comm f d, ← smul_smul, k, smul_smul, smul_smul, Int.mul_comm]
theorem Eqv.mul {a a' b b' : CM} {d d' e e' : Int} (h : Eqv a d a' d') (k : Eqv b e b' e') : Eqv (mulC a b) (d * e) (mulC a' b') (d' * e') := by
  unfold Eqv at *
  rw [← smul_smul, ← mulC_smul, ← smul_mulC, h, k, smul_mulC, mulC_smul, smul_smul]
/-- The matrix stands for these numbers. -/
def RC (m : Mt) (a : CM) (d : Int) : Prop := RM m a.x0 a.y0 a.x1 a.y1 a.x2 a.y2 a.x3 a.y3 d
theorem rc_times {m n r : Mt} {a b : CM} {d e : Int} (hm : RC m a d) (hn : RC n b e) (h : mtimesI m n = some r) : RC r (mulC a b) (d * e) := rm_times hm hn h
theorem rep_scale {f : Fr} {x y d k : Int} (hk : 1 ≤ k) (h : Rep f x y d) : Rep f (k * x) (k * y) (k * d) := by
  obtain ⟨h0, h1, h2, h3⟩ := h
  refine ⟨h0, ?_, ?_, ?_⟩
  · have := Int.mul_le_mul hk h1 (by omega) (by omega)
    omega
  · clear h3; grind
  · clear h2; grind
theorem RC.pos {m : Mt} {a : CM} {d : Int} (h : RC m a d) : 1 ≤ d := h.a.pos
theorem rc_uniq {m n : Mt} {a b : CM} {d e : Int} (hm : RC m a d) (hn : RC n b e) (h : Eqv a d b e) : m = n := by
  have hd := hm.pos
  have he := hn.pos
  unfold Eqv at h
  simp only [smulC, CM.mk.injEq] at h
  obtain ⟨h0, h1, h2, h3, h4, h5, h6, h7⟩ := h
  have key : ∀ {f g : Fr} {x y u v : Int}, Rep f x y d → Rep g u v e → e * x = d * u → e * y = d * v → f = g := by
    intro f g x y u v hf hg e1 e2
    refine rep_uniq (rep_scale he hf) ?_
    have := rep_scale hd hg
    rwa [← e1, ← e2, Int.mul_comm d e] at this
  cases m; cases n
  simp only [Mt.mk.injEq]
  exact ⟨key hm.a hn.a h0 h1, key hm.b hn.b h2 h3, key hm.c hn.c h4 h5, key hm.d hn.d h6 h7⟩
def powC (a : CM) : Nat → CM
  | 0 => idC
  | j + 1 => mulC a (powC a j)
theorem powC_add (a : CM) (i j : Nat) : powC a (i + j) = mulC (powC a i) (powC a j) := by
  induction i with
  | zero => rw [Nat.zero_add]; exact (id_mulC _).symm
  | succ i ih => rw [Nat.succ_add]; show mulC a (powC a (i + j)) = mulC (mulC a (powC a i)) (powC a j); rw [ih, mulC_assoc]
/-- A plate's power. -/
def WC (c s a b : Int) : CM := ⟨c * c + s * s * a, s * s * b, c * s * (1 - a), -(c * s * b), c * s * (1 - a), -(c * s * b), s * s + c * c * a, c * c * b⟩
theorem wc_mul {c s n a b a' b' : Int} (hc : c * c + s * s = n * n) : mulC (WC c s a b) (WC c s a' b') = smulC (n * n) (WC c s (a * a' - b * b') (a * b' + b * a')) := by
  simp only [mulC, WC, smulC, CM.mk.injEq]
  refine ⟨?_, ?_, ?_, ?_, ?_, ?_, ?_, ?_⟩ <;> grind
theorem wc_one {c s n : Int} (hc : c * c + s * s = n * n) : WC c s 1 0 = smulC (n * n) idC := by
  simp only [WC, smulC, idC, CM.mk.injEq]
  refine ⟨?_, ?_, ?_, ?_, ?_, ?_, ?_, ?_⟩ <;> grind
end Go.Proofs.YtmaifiakjlbooaaDoor
