/-
  The walk of the program's MatAlike for a valid matrix and one.
-/
import Derived.Test.YtiagnnmnaakmoaaDoorOa
import Derived.Test.YtiagnnmnaakmoaaDoorEq
namespace Go.Proofs.YtiagnnmnaakmoaaDoor
set_option linter.unusedSimpArgs false
set_option linter.unusedVariables false
open Go.RowKit
attribute [local go_sem ↓] Go.wp_at_zero Go.wp_at_succ
theorem times_one {f : Fr} (h : fvalid f = true) : timesI f ⟨1, 0, 1⟩ = some f := by
  have e := lowI_self h
  rw [timesI, h, show fvalid ⟨1, 0, 1⟩ = true by decide]
  simpa using e
theorem times_zero {f : Fr} (h : fvalid f = true) : timesI f ⟨0, 0, 1⟩ = some ⟨0, 0, 1⟩ := by
  have b := fvalid_bd f h
  have r : Rep f f.re f.im f.den := rep_self h
  have z : Rep ⟨0, 0, 1⟩ 0 0 1 := ⟨by decide, by decide, by decide, by decide⟩
  obtain ⟨g, hg, hr⟩ := lowI_small 0 0 f.den b.2.2.1 b.2.2.2 (by omega) (by omega)
  have e : timesI f ⟨0, 0, 1⟩ = lowI 0 0 f.den := by
    rw [timesI, h, show fvalid ⟨0, 0, 1⟩ = true by decide]
    simp
  rw [e, hg]
  congr 1
  exact rep_uniq hr ⟨by decide, b.2.2.1, by simp, by simp⟩
theorem mvalid_mf {m : Mt} (h : mvalid m = true) (i : Nat) : fvalid (mf m i) = true := by
  simp only [mvalid, Bool.and_eq_true] at h
  unfold mf
  split
  · exact h.1.1.1
  split
  · exact h.1.1.2
  split
  · exact h.1.2
  · exact h.2
theorem tmv_one {m : Mt} (h : mvalid m = true) (i k : Nat) (hk : k < 4) : timesI (mf m i) (mf (⟨⟨1, 0, 1⟩, ⟨0, 0, 1⟩, ⟨0, 0, 1⟩, ⟨1, 0, 1⟩⟩ : Mt) k) = some (if k = 0 ∨ k = 3 then mf m i else ⟨0, 0, 1⟩) := by
  match k, hk with
  | 0, _ => exact times_one (mvalid_mf h i)
  | 1, _ => exact times_zero (mvalid_mf h i)
  | 2, _ => exact times_zero (mvalid_mf h i)
  | 3, _ => exact times_one (mvalid_mf h i)
theorem told_one {m : Mt} (h : mvalid m = true) : Told m (⟨⟨1, 0, 1⟩, ⟨0, 0, 1⟩, ⟨0, 0, 1⟩, ⟨1, 0, 1⟩⟩ : Mt) := fun i k _ hk => by rw [tmv_one h i k hk]; rfl
theorem cross_one {m : Mt} (h : mvalid m = true) : crossB m (⟨⟨1, 0, 1⟩, ⟨0, 0, 1⟩, ⟨0, 0, 1⟩, ⟨1, 0, 1⟩⟩ : Mt) = (m.b == ⟨0, 0, 1⟩ && m.c == ⟨0, 0, 1⟩ && m.a == m.d) := by
  have e : ∀ i k : Nat, k < 4 → tmv m (⟨⟨1, 0, 1⟩, ⟨0, 0, 1⟩, ⟨0, 0, 1⟩, ⟨1, 0, 1⟩⟩ : Mt) i k = if k = 0 ∨ k = 3 then mf m i else ⟨0, 0, 1⟩ := fun i k hk => by rw [tmv, tmv_one h i k hk]; rfl
  rw [Bool.eq_iff_iff]
  constructor
  · intro hc
    have key : ∀ i k : Nat, i < 4 → k < 4 → i ≠ k → tmv m (⟨⟨1, 0, 1⟩, ⟨0, 0, 1⟩, ⟨0, 0, 1⟩, ⟨1, 0, 1⟩⟩ : Mt) i k = tmv m (⟨⟨1, 0, 1⟩, ⟨0, 0, 1⟩, ⟨0, 0, 1⟩, ⟨1, 0, 1⟩⟩ : Mt) k i := by
      intro i k hi hk hne
      simp only [crossB, List.all_eq_true, List.mem_range, Bool.or_eq_true, decide_eq_true_eq, beq_iff_eq] at hc
      rcases hc i hi k hk with e | e
      · exact absurd e hne
      · exact e
    have k1 := key 0 1 (by omega) (by omega) (by omega)
    have k2 := key 0 2 (by omega) (by omega) (by omega)
    have k3 := key 0 3 (by omega) (by omega) (by omega)
    rw [e 0 1 (by omega), e 1 0 (by omega)] at k1
    rw [e 0 2 (by omega), e 2 0 (by omega)] at k2
    rw [e 0 3 (by omega), e 3 0 (by omega)] at k3
    have l1 : (⟨0, 0, 1⟩ : Fr) = m.b := k1
    have l2 : (⟨0, 0, 1⟩ : Fr) = m.c := k2
    have l3 : m.a = m.d := k3
    rw [← l1, ← l2, ← l3]
    simp
  · intro hh
    simp only [Bool.and_eq_true, beq_iff_eq] at hh
    obtain ⟨⟨h1, h2⟩, h3⟩ := hh
    refine crossB_t fun i k hi hk hne => ?_
    rw [e i k hk, e k i hi]
    match i, k, hi, hk, hne with
    | 0, 0, _, _, hne => exact absurd rfl hne
    | 1, 1, _, _, hne => exact absurd rfl hne
    | 2, 2, _, _, hne => exact absurd rfl hne
    | 3, 3, _, _, hne => exact absurd rfl hne
    | 0, 1, _, _, _ => exact h1.symm
    | 1, 0, _, _, _ => exact h1
    | 0, 2, _, _, _ => exact h2.symm
    | 2, 0, _, _, _ => exact h2
    | 0, 3, _, _, _ => exact h3
    | 3, 0, _, _, _ => exact h3.symm
    | 1, 2, _, _, _ => rfl
    | 2, 1, _, _, _ => rfl
    | 1, 3, _, _, _ => exact h1
    | 3, 1, _, _, _ => exact h1.symm
    | 2, 3, _, _, _ => exact h2
    | 3, 2, _, _, _ => exact h2.symm
theorem oneLike_eq {m : Mt} (h : mvalid m = true) : oneLike m = (crossB m (⟨⟨1, 0, 1⟩, ⟨0, 0, 1⟩, ⟨0, 0, 1⟩, ⟨1, 0, 1⟩⟩ : Mt) && !(m.a == ⟨0, 0, 1⟩)) := by
  rw [cross_one h]
  rfl
theorem eqF_ne (d : Nat) (a b : Fr) (h : a ≠ b) (w : World) : (Op.equalIn (d + 2) 31 (frv a) (frv b)).run Tryd.prog w = .ok false w := by
  rw [run_equalIn_struct w (d + 1) _ _ _ (by kernel_rfl) (by kernel_rfl)]
  have hf := fields_f
  generalize (Tryd.prog.fieldsOf 31).toList = fs at hf
  obtain ⟨f0, f1, f2, rfl⟩ : ∃ f0 f1 f2, fs = [f0, f1, f2] := by
    have hl : fs.length = 3 := by simpa using congrArg List.length hf
    rcases fs with _ | ⟨f0, _ | ⟨f1, _ | ⟨f2, _ | ⟨f3, fs⟩⟩⟩⟩
    · simp at hl
    · simp at hl
    · simp at hl
    · exact ⟨f0, f1, f2, rfl⟩
    · simp at hl
  simp only [List.map_cons, List.map_nil, List.cons.injEq, Prod.mk.injEq, and_true] at hf
  obtain ⟨⟨n0, t0, o0⟩, ⟨n1, t1, o1⟩, ⟨n2, t2, o2⟩⟩ := hf
  obtain ⟨p0, p1, p2⟩ := part_i a w
  obtain ⟨q0, q1, q2⟩ := part_i b w
  have ei : ∀ x y : Int, (Op.equalIn (d + 1) 3 (.int .i64 x) (.int .i64 y)).run Tryd.prog w = .ok (x == y) w := fun x y => by
    rw [run_equalIn_int w d 3 .i64 .i64 x y Tryd.underlying3]
  have m0 : f0.name ≠ "_" := by simpa using n0
  have m1 : f1.name ≠ "_" := by simpa using n1
  have m2 : f2.name ≠ "_" := by simpa using n2
  have hne : (a.re == b.re && (a.im == b.im && a.den == b.den)) = false := by rw [fr_eq]; simpa using h
  simp only [Op.eqFields, Sem.run_bind, t0, t1, t2, o0, o1, o2, m0, m1, m2, ne_eq, not_false_eq_true, if_true, p0, p1, p2, q0, q1, q2, ei, Result.andThen_ok]
  cases h0 : (a.re == b.re)
  · simp
  · cases h1 : (a.im == b.im)
    · simp [p1, q1, ei, h1]
    · have h2 : (a.den == b.den) = false := by rw [h0, h1] at hne; simpa using hne
      simp [p1, q1, p2, q2, ei, h1, h2]
theorem eqM_ne (a : Fr) (b c d : Fr) (n : Mt) (h : a ≠ n.a) (w : World) : (Op.equalIn 10000 42 (mtv ⟨a, b, c, d⟩) (mtv n)).run Tryd.prog w = .ok false w := by
  obtain ⟨i, hi⟩ : ∃ i, Tryd.prog.info? 31 = some i := Option.isSome_iff_exists.1 (by kernel_rfl)
  rw [show (10000 : Nat) = 9999 + 1 from rfl, run_equalIn_array w 9999 _ _ Tryd.underlying42 hi]
  obtain ⟨p0, p1, p2, p3⟩ := part_f ⟨a, b, c, d⟩ w
  obtain ⟨q0, q1, q2, q3⟩ := part_f n w
  have e : (Op.equalIn 9999 31 (frv a) (frv n.a)).run Tryd.prog w = .ok false w := eqF_ne 9997 a n.a h w
  simp only [show List.range 4 = [0, 1, 2, 3] from rfl, show Tryd.prog.cellsOf 31 = 3 by kernel_rfl, Op.eqItems, Sem.run_bind, Nat.zero_mul, p0, q0, e, Result.andThen_ok, Bool.not_false, if_true, Sem.run_pure]
/-- Both matrices and the dark one. -/
structure MA (w : World) (p : Mt) (W : World) : Prop where
  a : MtAt W w.heap.size p
  b : MtAt W (w.heap.size + 1) (⟨⟨1, 0, 1⟩, ⟨0, 0, 1⟩, ⟨0, 0, 1⟩, ⟨1, 0, 1⟩⟩ : Mt)
  n : MtAt W (w.heap.size + 1 + 1) (⟨⟨0, 0, 1⟩, ⟨0, 0, 1⟩, ⟨0, 0, 1⟩, ⟨0, 0, 1⟩⟩ : Mt)
  B : Below w.heap.size w W
section
variable {w W w1 : World} {p : Mt}
theorem MA.alloc (h : MA w p W) (o : Obj) : MA w p (W.alloc o) := ⟨h.a.alloc o, h.b.alloc o, h.n.alloc o, h.B.alloc h.B.size o⟩
theorem MA.drew (h : MA w p W) : MA w p W.drew := ⟨h.a.drew, h.b.drew, h.n.drew, h.B.drew⟩
theorem MA.drewN (h : MA w p W) (k : Nat) : MA w p (W.drewN k) := ⟨h.a.drewN k, h.b.drewN k, h.n.drewN k, below_drewN h.B k⟩
theorem MA.below (h : MA w p W) (hb : Below W.heap.size W w1) : MA w p w1 := ⟨h.a.below hb h.a.lt, h.b.below hb h.b.lt, h.n.below hb h.n.lt, bstep h.B hb h.B.size⟩
theorem mt12 {b : Nat} {m : Mt} {T : Prop} (h : MtAt W b m) (t : T) : W.cell? ⟨b, 0, none⟩ = some (.int .i64 m.a.re) ∧ W.cell? ⟨b, 1, none⟩ = some (.int .i64 m.a.im) ∧ W.cell? ⟨b, 2, none⟩ = some (.int .i64 m.a.den) ∧ W.cell? ⟨b, 3, none⟩ = some (.int .i64 m.b.re) ∧ W.cell? ⟨b, 4, none⟩ = some (.int .i64 m.b.im) ∧ W.cell? ⟨b, 5, none⟩ = some (.int .i64 m.b.den) ∧ W.cell? ⟨b, 6, none⟩ = some (.int .i64 m.c.re) ∧ W.cell? ⟨b, 7, none⟩ = some (.int .i64 m.c.im) ∧ W.cell? ⟨b, 8, none⟩ = some (.int .i64 m.c.den) ∧ W.cell? ⟨b, 9, none⟩ = some (.int .i64 m.d.re) ∧ W.cell? ⟨b, 10, none⟩ = some (.int .i64 m.d.im) ∧ W.cell? ⟨b, 11, none⟩ = some (.int .i64 m.d.den) ∧ T := by
  obtain ⟨m0, m1, m2, m3, m4, m5, m6, m7, m8, m9, m10, m11⟩ := h
  exact ⟨m0, m1, m2, m3, m4, m5, m6, m7, m8, m9, m10, m11, t⟩
theorem MA.cells (h : MA w p W) : W.cell? ⟨w.heap.size, 0, none⟩ = some (.int .i64 p.a.re) ∧ W.cell? ⟨w.heap.size, 1, none⟩ = some (.int .i64 p.a.im) ∧ W.cell? ⟨w.heap.size, 2, none⟩ = some (.int .i64 p.a.den) ∧ W.cell? ⟨w.heap.size, 3, none⟩ = some (.int .i64 p.b.re) ∧ W.cell? ⟨w.heap.size, 4, none⟩ = some (.int .i64 p.b.im) ∧ W.cell? ⟨w.heap.size, 5, none⟩ = some (.int .i64 p.b.den) ∧ W.cell? ⟨w.heap.size, 6, none⟩ = some (.int .i64 p.c.re) ∧ W.cell? ⟨w.heap.size, 7, none⟩ = some (.int .i64 p.c.im) ∧ W.cell? ⟨w.heap.size, 8, none⟩ = some (.int .i64 p.c.den) ∧ W.cell? ⟨w.heap.size, 9, none⟩ = some (.int .i64 p.d.re) ∧ W.cell? ⟨w.heap.size, 10, none⟩ = some (.int .i64 p.d.im) ∧ W.cell? ⟨w.heap.size, 11, none⟩ = some (.int .i64 p.d.den) ∧ W.cell? ⟨w.heap.size + 1, 0, none⟩ = some (.int .i64 1) ∧ W.cell? ⟨w.heap.size + 1, 1, none⟩ = some (.int .i64 0) ∧ W.cell? ⟨w.heap.size + 1, 2, none⟩ = some (.int .i64 1) ∧ W.cell? ⟨w.heap.size + 1, 3, none⟩ = some (.int .i64 0) ∧ W.cell? ⟨w.heap.size + 1, 4, none⟩ = some (.int .i64 0) ∧ W.cell? ⟨w.heap.size + 1, 5, none⟩ = some (.int .i64 1) ∧ W.cell? ⟨w.heap.size + 1, 6, none⟩ = some (.int .i64 0) ∧ W.cell? ⟨w.heap.size + 1, 7, none⟩ = some (.int .i64 0) ∧ W.cell? ⟨w.heap.size + 1, 8, none⟩ = some (.int .i64 1) ∧ W.cell? ⟨w.heap.size + 1, 9, none⟩ = some (.int .i64 1) ∧ W.cell? ⟨w.heap.size + 1, 10, none⟩ = some (.int .i64 0) ∧ W.cell? ⟨w.heap.size + 1, 11, none⟩ = some (.int .i64 1) ∧ W.cell? ⟨w.heap.size + 1 + 1, 0, none⟩ = some (.int .i64 0) ∧ W.cell? ⟨w.heap.size + 1 + 1, 1, none⟩ = some (.int .i64 0) ∧ W.cell? ⟨w.heap.size + 1 + 1, 2, none⟩ = some (.int .i64 1) ∧ W.cell? ⟨w.heap.size + 1 + 1, 3, none⟩ = some (.int .i64 0) ∧ W.cell? ⟨w.heap.size + 1 + 1, 4, none⟩ = some (.int .i64 0) ∧ W.cell? ⟨w.heap.size + 1 + 1, 5, none⟩ = some (.int .i64 1) ∧ W.cell? ⟨w.heap.size + 1 + 1, 6, none⟩ = some (.int .i64 0) ∧ W.cell? ⟨w.heap.size + 1 + 1, 7, none⟩ = some (.int .i64 0) ∧ W.cell? ⟨w.heap.size + 1 + 1, 8, none⟩ = some (.int .i64 1) ∧ W.cell? ⟨w.heap.size + 1 + 1, 9, none⟩ = some (.int .i64 0) ∧ W.cell? ⟨w.heap.size + 1 + 1, 10, none⟩ = some (.int .i64 0) ∧ W.cell? ⟨w.heap.size + 1 + 1, 11, none⟩ = some (.int .i64 1) := mt12 h.a (mt12 h.b h.n)
theorem ma_valid (w : World) (p m : Mt) (hv : Hid (mvalid m = true)) (W : World) (h : MA w p W) :
    Calls Tryd.prog 42 #[mtv m] W fun e w' => e = .returned (.bool true) ∧ MA w p w' :=
  (mvalid_t m W hv.out).mono fun _ _ ⟨h1, h2⟩ => ⟨h1, h.below h2⟩
theorem ma_crossed (w : World) (p : Mt) (hv : Hid (mvalid p = true)) (cb : Bool) (hcb : Hid (crossB p (⟨⟨1, 0, 1⟩, ⟨0, 0, 1⟩, ⟨0, 0, 1⟩, ⟨1, 0, 1⟩⟩ : Mt) = cb)) (W : World) (h : MA w p W) :
    Calls Tryd.prog 62 #[.slice (some ⟨w.heap.size, 0, none⟩) 4 4, .slice (some ⟨w.heap.size + 1, 0, none⟩) 4 4] W fun e w' => e = .returned (.bool cb) ∧ MA w p w' := by
  rw [← hcb.out]
  exact (crossed_any p (⟨⟨1, 0, 1⟩, ⟨0, 0, 1⟩, ⟨0, 0, 1⟩, ⟨1, 0, 1⟩⟩ : Mt) w.heap.size (w.heap.size + 1) W h.a h.b (told_one hv.out)).mono fun _ _ ⟨h1, h2⟩ => ⟨h1, h.below h2⟩
end
theorem MtAt.new' {w : World} {b : Nat} (hb : b = w.heap.size) (m : Mt) (t : TypeId) : MtAt (w.alloc (.cells #[.int .i64 m.a.re, .int .i64 m.a.im, .int .i64 m.a.den, .int .i64 m.b.re, .int .i64 m.b.im, .int .i64 m.b.den, .int .i64 m.c.re, .int .i64 m.c.im, .int .i64 m.c.den, .int .i64 m.d.re, .int .i64 m.d.im, .int .i64 m.d.den] t)) b m := by subst hb; exact MtAt.new w m t
theorem eq_1z (w : World) : (Op.equalIn 10000 42 (.agg #[.int .i64 1, .int .i64 0, .int .i64 1, .int .i64 0, .int .i64 0, .int .i64 1, .int .i64 0, .int .i64 0, .int .i64 1, .int .i64 1, .int .i64 0, .int .i64 1]) (.agg #[.int .i64 0, .int .i64 0, .int .i64 1, .int .i64 0, .int .i64 0, .int .i64 1, .int .i64 0, .int .i64 0, .int .i64 1, .int .i64 0, .int .i64 0, .int .i64 1])).run Tryd.prog w = .ok false w := by kernel_rfl
theorem eq_zz (w : World) : (Op.equalIn 10000 42 (.agg #[.int .i64 0, .int .i64 0, .int .i64 1, .int .i64 0, .int .i64 0, .int .i64 1, .int .i64 0, .int .i64 0, .int .i64 1, .int .i64 0, .int .i64 0, .int .i64 1]) (.agg #[.int .i64 0, .int .i64 0, .int .i64 1, .int .i64 0, .int .i64 0, .int .i64 1, .int .i64 0, .int .i64 0, .int .i64 1, .int .i64 0, .int .i64 0, .int .i64 1])).run Tryd.prog w = .ok true w := by kernel_rfl
attribute [local go_sem] eq_1z eq_zz
set_option maxRecDepth 100000 in
set_option maxHeartbeats 4000000 in
theorem matAlike_f (p : Mt) (w : World) (hv : mvalid (p : Mt) = true) (hZ : GZ w) (hc : crossB p (⟨⟨1, 0, 1⟩, ⟨0, 0, 1⟩, ⟨0, 0, 1⟩, ⟨1, 0, 1⟩⟩ : Mt) = false) :
    Calls Tryd.prog 35 #[mtv (p : Mt), mtv (⟨⟨1, 0, 1⟩, ⟨0, 0, 1⟩, ⟨0, 0, 1⟩, ⟨1, 0, 1⟩⟩ : Mt)] w fun e w' => e = .returned (.bool false) ∧ Below w.heap.size w w' := by
  have HV := Lib.hid hv
  have HC := Lib.hid hc
  have HV1 := Lib.hid (show mvalid (⟨⟨1, 0, 1⟩, ⟨0, 0, 1⟩, ⟨0, 0, 1⟩, ⟨1, 0, 1⟩⟩ : Mt) = true by decide)
  have hgz := hZ.val
  have hgl := hZ.lts
  clear hv hc
  go_enter Tryd.func35, Tryd.ntmps35
  go_upto_region 2 with fail
  have hD : MA w (p : Mt) (((w.alloc (.cells #[.int .i64 p.a.re, .int .i64 p.a.im, .int .i64 p.a.den, .int .i64 p.b.re, .int .i64 p.b.im, .int .i64 p.b.den, .int .i64 p.c.re, .int .i64 p.c.im, .int .i64 p.c.den, .int .i64 p.d.re, .int .i64 p.d.im, .int .i64 p.d.den] 44)).alloc (.cells #[.int .i64 1, .int .i64 0, .int .i64 1, .int .i64 0, .int .i64 0, .int .i64 1, .int .i64 0, .int .i64 0, .int .i64 1, .int .i64 1, .int .i64 0, .int .i64 1] 44)).alloc (.cells #[.int .i64 0, .int .i64 0, .int .i64 1, .int .i64 0, .int .i64 0, .int .i64 1, .int .i64 0, .int .i64 0, .int .i64 1, .int .i64 0, .int .i64 0, .int .i64 1] 42)) :=
    ⟨((MtAt.new w (p : Mt) _).alloc _).alloc _, (MtAt.new' (by simp) (⟨⟨1, 0, 1⟩, ⟨0, 0, 1⟩, ⟨0, 0, 1⟩, ⟨1, 0, 1⟩⟩ : Mt) _).alloc _, MtAt.new' (by simp) (⟨⟨0, 0, 1⟩, ⟨0, 0, 1⟩, ⟨0, 0, 1⟩, ⟨0, 0, 1⟩⟩ : Mt) _, ((((Below.refl _ _).alloc (Nat.le_refl _) _).alloc (by simp) _).alloc (by simp; omega) _)⟩
  clear hgz hgl
  refine wp_region_noPanic ?_
  refine wp_region_held_drew (S := fun w' => w'.cell? ⟨w.heap.size, 0, none⟩ = some (.int .i64 p.a.re) ∧ w'.cell? ⟨w.heap.size, 1, none⟩ = some (.int .i64 p.a.im) ∧ w'.cell? ⟨w.heap.size, 2, none⟩ = some (.int .i64 p.a.den) ∧ w'.cell? ⟨w.heap.size, 3, none⟩ = some (.int .i64 p.b.re) ∧ w'.cell? ⟨w.heap.size, 4, none⟩ = some (.int .i64 p.b.im) ∧ w'.cell? ⟨w.heap.size, 5, none⟩ = some (.int .i64 p.b.den) ∧ w'.cell? ⟨w.heap.size, 6, none⟩ = some (.int .i64 p.c.re) ∧ w'.cell? ⟨w.heap.size, 7, none⟩ = some (.int .i64 p.c.im) ∧ w'.cell? ⟨w.heap.size, 8, none⟩ = some (.int .i64 p.c.den) ∧ w'.cell? ⟨w.heap.size, 9, none⟩ = some (.int .i64 p.d.re) ∧ w'.cell? ⟨w.heap.size, 10, none⟩ = some (.int .i64 p.d.im) ∧ w'.cell? ⟨w.heap.size, 11, none⟩ = some (.int .i64 p.d.den) ∧ w'.cell? ⟨w.heap.size + 1, 0, none⟩ = some (.int .i64 1) ∧ w'.cell? ⟨w.heap.size + 1, 1, none⟩ = some (.int .i64 0) ∧ w'.cell? ⟨w.heap.size + 1, 2, none⟩ = some (.int .i64 1) ∧ w'.cell? ⟨w.heap.size + 1, 3, none⟩ = some (.int .i64 0) ∧ w'.cell? ⟨w.heap.size + 1, 4, none⟩ = some (.int .i64 0) ∧ w'.cell? ⟨w.heap.size + 1, 5, none⟩ = some (.int .i64 1) ∧ w'.cell? ⟨w.heap.size + 1, 6, none⟩ = some (.int .i64 0) ∧ w'.cell? ⟨w.heap.size + 1, 7, none⟩ = some (.int .i64 0) ∧ w'.cell? ⟨w.heap.size + 1, 8, none⟩ = some (.int .i64 1) ∧ w'.cell? ⟨w.heap.size + 1, 9, none⟩ = some (.int .i64 1) ∧ w'.cell? ⟨w.heap.size + 1, 10, none⟩ = some (.int .i64 0) ∧ w'.cell? ⟨w.heap.size + 1, 11, none⟩ = some (.int .i64 1) ∧ w'.cell? ⟨w.heap.size + 1 + 1, 0, none⟩ = some (.int .i64 0) ∧ w'.cell? ⟨w.heap.size + 1 + 1, 1, none⟩ = some (.int .i64 0) ∧ w'.cell? ⟨w.heap.size + 1 + 1, 2, none⟩ = some (.int .i64 1) ∧ w'.cell? ⟨w.heap.size + 1 + 1, 3, none⟩ = some (.int .i64 0) ∧ w'.cell? ⟨w.heap.size + 1 + 1, 4, none⟩ = some (.int .i64 0) ∧ w'.cell? ⟨w.heap.size + 1 + 1, 5, none⟩ = some (.int .i64 1) ∧ w'.cell? ⟨w.heap.size + 1 + 1, 6, none⟩ = some (.int .i64 0) ∧ w'.cell? ⟨w.heap.size + 1 + 1, 7, none⟩ = some (.int .i64 0) ∧ w'.cell? ⟨w.heap.size + 1 + 1, 8, none⟩ = some (.int .i64 1) ∧ w'.cell? ⟨w.heap.size + 1 + 1, 9, none⟩ = some (.int .i64 0) ∧ w'.cell? ⟨w.heap.size + 1 + 1, 10, none⟩ = some (.int .i64 0) ∧ w'.cell? ⟨w.heap.size + 1 + 1, 11, none⟩ = some (.int .i64 1)) (by kernel_rfl) ?_ (fun hHeld => ?_)
  · (try dsimp only)
    (refine MA.cells (w := w) (p := (p : Mt)) ?_; (repeat' (first | (with_reducible assumption) | (with_reducible apply MA.alloc) | (with_reducible apply MA.drewN) | (with_reducible apply MA.drew))))
  refine wpAnyH_take (i := 0) (v := ?vq1) (by simp; rfl) (by kernel_rfl) (by kernel_rfl) (by kernel_rfl) (fun _ _ _ h => h) (Or.inl ⟨by rfl, ?yq1⟩) (by assumption) ?rq1
  case yq1 => (intro w' hSw; (try dsimp only at hSw); go_simp; first | done | with_reducible rfl)
  (try simp only [Act.put, List.setIfInBounds_toArray, List.set_cons_zero, List.set_cons_succ])
  refine wpAnyH_ready (rs := [1]) (by kernel_rfl) (by simp) ?_
  refine AllReadyH.cons (by simp; rfl) (fun K hK => ?_) AllReadyH.nil
  go_simp
  (go_at_call 42; (with_reducible refine (ma_valid w (p : Mt) (p : Mt) HV _ (by (repeat' (first | (with_reducible assumption) | (with_reducible apply MA.alloc) | (with_reducible apply MA.drewN) | (with_reducible apply MA.drew))))).mono ?_); rintro e wd ⟨rfl, hD⟩; have hB := hD.B)
  refine hK.out _ _ ?_ (fun hHeld => ?_)
  · (try dsimp only)
    (refine MA.cells (w := w) (p := (p : Mt)) ?_; (repeat' (first | (with_reducible assumption) | (with_reducible apply MA.alloc) | (with_reducible apply MA.drewN) | (with_reducible apply MA.drew))))
  clear hK K
  (try simp only [Act.put, List.setIfInBounds_toArray, List.set_cons_zero, List.set_cons_succ])
  refine wpAnyH_take (i := 2) (v := ?vq3) (by simp; rfl) (by kernel_rfl) (by kernel_rfl) (by kernel_rfl) (fun _ _ _ h => h) (Or.inl ⟨by rfl, ?yq3⟩) (by assumption) ?rq3
  case yq3 => (intro w' hSw; (try dsimp only at hSw); go_simp; first | done | with_reducible rfl)
  (try simp only [Act.put, List.setIfInBounds_toArray, List.set_cons_zero, List.set_cons_succ])
  refine wpAnyH_take (i := 3) (v := ?vq4) (by simp; rfl) (by kernel_rfl) (by kernel_rfl) (by kernel_rfl) (fun _ _ _ h => h) (Or.inl ⟨by rfl, ?yq4⟩) (by assumption) ?rq4
  case yq4 => (intro w' hSw; (try dsimp only at hSw); go_simp; first | done | with_reducible rfl)
  (try simp only [Act.put, List.setIfInBounds_toArray, List.set_cons_zero, List.set_cons_succ])
  refine wpAnyH_ready (rs := [4]) (by kernel_rfl) (by simp) ?_
  refine AllReadyH.cons (by simp; rfl) (fun K hK => ?_) AllReadyH.nil
  go_simp
  (go_at_call 42; (with_reducible refine (ma_valid w (p : Mt) (⟨⟨1, 0, 1⟩, ⟨0, 0, 1⟩, ⟨0, 0, 1⟩, ⟨1, 0, 1⟩⟩ : Mt) HV1 _ (by (repeat' (first | (with_reducible assumption) | (with_reducible apply MA.alloc) | (with_reducible apply MA.drewN) | (with_reducible apply MA.drew))))).mono ?_); rintro e wd ⟨rfl, hD⟩; have hB := hD.B)
  refine hK.out _ _ ?_ (fun hHeld => ?_)
  · (try dsimp only)
    (refine MA.cells (w := w) (p := (p : Mt)) ?_; (repeat' (first | (with_reducible assumption) | (with_reducible apply MA.alloc) | (with_reducible apply MA.drewN) | (with_reducible apply MA.drew))))
  clear hK K
  (try simp only [Act.put, List.setIfInBounds_toArray, List.set_cons_zero, List.set_cons_succ])
  refine wpAnyH_take (i := 5) (v := ?vq6) (by simp; rfl) (by kernel_rfl) (by kernel_rfl) (by kernel_rfl) (fun _ _ _ h => h) (Or.inl ⟨by rfl, ?yq6⟩) (by assumption) ?rq6
  case yq6 => (intro w' hSw; (try dsimp only at hSw); go_simp; first | done | with_reducible rfl)
  (try simp only [Act.put, List.setIfInBounds_toArray, List.set_cons_zero, List.set_cons_succ])
  refine wpAnyH_take (i := 6) (v := ?vq7) (by simp; rfl) (by kernel_rfl) (by kernel_rfl) (by kernel_rfl) (fun _ _ _ h => h) (Or.inl ⟨by rfl, ?yq7⟩) (by assumption) ?rq7
  case yq7 => (intro w' hSw; (try dsimp only at hSw); go_simp; first | done | with_reducible rfl)
  (try simp only [Act.put, List.setIfInBounds_toArray, List.set_cons_zero, List.set_cons_succ])
  refine wpAnyH_take (i := 7) (v := ?vq8) (by simp; rfl) (by kernel_rfl) (by kernel_rfl) (by kernel_rfl) (fun _ _ _ h => h) (Or.inl ⟨by rfl, ?yq8⟩) (by assumption) ?rq8
  case yq8 => (intro w' hSw; (try dsimp only at hSw); go_simp; first | done | with_reducible rfl)
  (try simp only [Act.put, List.setIfInBounds_toArray, List.set_cons_zero, List.set_cons_succ])
  refine wpAnyH_take (i := 8) (v := ?vq9) (by simp; rfl) (by kernel_rfl) (by kernel_rfl) (by kernel_rfl) (fun _ _ _ h => h) (Or.inl ⟨by rfl, ?yq9⟩) (by assumption) ?rq9
  case yq9 => (intro w' hSw; (try dsimp only at hSw); go_simp; first | done | with_reducible rfl)
  (try simp only [Act.put, List.setIfInBounds_toArray, List.set_cons_zero, List.set_cons_succ])
  refine wpAnyH_take (i := 9) (v := ?vq10) (by simp; rfl) (by kernel_rfl) (by kernel_rfl) (by kernel_rfl) (fun _ _ _ h => h) (Or.inl ⟨by rfl, ?yq10⟩) (by assumption) ?rq10
  case yq10 => (intro w' hSw; (try dsimp only at hSw); go_simp; first | done | with_reducible rfl)
  (try simp only [Act.put, List.setIfInBounds_toArray, List.set_cons_zero, List.set_cons_succ])
  refine wpAnyH_take (i := 10) (v := ?vq11) (by simp; rfl) (by kernel_rfl) (by kernel_rfl) (by kernel_rfl) (fun _ _ _ h => h) (Or.inl ⟨by rfl, ?yq11⟩) (by assumption) ?rq11
  case yq11 => (intro w' hSw; (try dsimp only at hSw); go_simp; first | done | with_reducible rfl)
  (try simp only [Act.put, List.setIfInBounds_toArray, List.set_cons_zero, List.set_cons_succ])
  refine wpAnyH_ready (rs := [11]) (by kernel_rfl) (by simp) ?_
  refine AllReadyH.cons (by simp; rfl) (fun K hK => ?_) AllReadyH.nil
  go_simp
  (go_at_call 62; (with_reducible refine (ma_crossed w (p : Mt) HV false HC _ (by (repeat' (first | (with_reducible assumption) | (with_reducible apply MA.alloc) | (with_reducible apply MA.drewN) | (with_reducible apply MA.drew))))).mono ?_); rintro e wd ⟨rfl, hD⟩; have hB := hD.B)
  refine hK.out _ _ ?_ (fun hHeld => ?_)
  · (try dsimp only)
    (refine MA.cells (w := w) (p := (p : Mt)) ?_; (repeat' (first | (with_reducible assumption) | (with_reducible apply MA.alloc) | (with_reducible apply MA.drewN) | (with_reducible apply MA.drew))))
  clear hK K
  (try simp only [Act.put, List.setIfInBounds_toArray, List.set_cons_zero, List.set_cons_succ])
  refine wpAnyH_take (i := 12) (v := ?vq13) (by simp; rfl) (by kernel_rfl) (by kernel_rfl) (by kernel_rfl) (fun _ _ _ h => h) (Or.inl ⟨by rfl, ?yq13⟩) (by assumption) ?rq13
  case yq13 => (intro w' hSw; (try dsimp only at hSw); go_simp; first | done | with_reducible rfl)
  (try simp only [Act.put, List.setIfInBounds_toArray, List.set_cons_zero, List.set_cons_succ])
  refine wpAnyH_take (i := 13) (v := ?vq14) (by simp; rfl) (by kernel_rfl) (by kernel_rfl) (by kernel_rfl) (fun _ _ _ h => h) (Or.inl ⟨by rfl, ?yq14⟩) (by assumption) ?rq14
  case yq14 => (intro w' hSw; (try dsimp only at hSw); go_simp; first | done | with_reducible rfl)
  (try simp only [Act.put, List.setIfInBounds_toArray, List.set_cons_zero, List.set_cons_succ])
  refine wpAnyH_take (i := 14) (v := undef) (by simp; rfl) (by kernel_rfl) (by kernel_rfl) (by kernel_rfl) (fun _ _ _ h => h) (Or.inr ⟨by rfl, rfl⟩) (by assumption) ?_
  (try simp only [Act.put, List.setIfInBounds_toArray, List.set_cons_zero, List.set_cons_succ])
  refine wpAnyH_take (i := 15) (v := undef) (by simp; rfl) (by kernel_rfl) (by kernel_rfl) (by kernel_rfl) (fun _ _ _ h => h) (Or.inr ⟨by rfl, rfl⟩) (by assumption) ?_
  (try simp only [Act.put, List.setIfInBounds_toArray, List.set_cons_zero, List.set_cons_succ])
  refine wpAnyH_take (i := 16) (v := undef) (by simp; rfl) (by kernel_rfl) (by kernel_rfl) (by kernel_rfl) (fun _ _ _ h => h) (Or.inr ⟨by rfl, rfl⟩) (by assumption) ?_
  (try simp only [Act.put, List.setIfInBounds_toArray, List.set_cons_zero, List.set_cons_succ])
  refine wpAnyH_take (i := 17) (v := undef) (by simp; rfl) (by kernel_rfl) (by kernel_rfl) (by kernel_rfl) (fun _ _ _ h => h) (Or.inr ⟨by rfl, rfl⟩) (by assumption) ?_
  (try simp only [Act.put, List.setIfInBounds_toArray, List.set_cons_zero, List.set_cons_succ])
  refine wpAnyH_take (i := 18) (v := undef) (by simp; rfl) (by kernel_rfl) (by kernel_rfl) (by kernel_rfl) (fun _ _ _ h => h) (Or.inr ⟨by rfl, rfl⟩) (by assumption) ?_
  (try simp only [Act.put, List.setIfInBounds_toArray, List.set_cons_zero, List.set_cons_succ])
  refine wpAnyH_take (i := 19) (v := undef) (by simp; rfl) (by kernel_rfl) (by kernel_rfl) (by kernel_rfl) (fun _ _ _ h => h) (Or.inr ⟨by rfl, rfl⟩) (by assumption) ?_
  (try simp only [Act.put, List.setIfInBounds_toArray, List.set_cons_zero, List.set_cons_succ])
  refine wpAnyH_take (i := 20) (v := undef) (by simp; rfl) (by kernel_rfl) (by kernel_rfl) (by kernel_rfl) (fun _ _ _ h => h) (Or.inr ⟨by rfl, rfl⟩) (by assumption) ?_
  (try simp only [Act.put, List.setIfInBounds_toArray, List.set_cons_zero, List.set_cons_succ])
  refine wpAnyH_take (i := 21) (v := undef) (by simp; rfl) (by kernel_rfl) (by kernel_rfl) (by kernel_rfl) (fun _ _ _ h => h) (Or.inr ⟨by rfl, rfl⟩) (by assumption) ?_
  (try simp only [Act.put, List.setIfInBounds_toArray, List.set_cons_zero, List.set_cons_succ])
  refine wpAnyH_take (i := 22) (v := undef) (by simp; rfl) (by kernel_rfl) (by kernel_rfl) (by kernel_rfl) (fun _ _ _ h => h) (Or.inr ⟨by rfl, rfl⟩) (by assumption) ?_
  (try simp only [Act.put, List.setIfInBounds_toArray, List.set_cons_zero, List.set_cons_succ])
  refine wpAnyH_take (i := 23) (v := ?vq24) (by simp; rfl) (by kernel_rfl) (by kernel_rfl) (by kernel_rfl) (fun _ _ _ h => h) (Or.inl ⟨by rfl, ?yq24⟩) (by assumption) ?rq24
  case yq24 => (intro w' hSw; (try dsimp only at hSw); go_simp; first | done | with_reducible rfl)
  (try simp only [Act.put, List.setIfInBounds_toArray, List.set_cons_zero, List.set_cons_succ])
  refine wpAnyH_take (i := 24) (v := ?vq25) (by simp; rfl) (by kernel_rfl) (by kernel_rfl) (by kernel_rfl) (fun _ _ _ h => h) (Or.inl ⟨by rfl, ?yq25⟩) (by assumption) ?rq25
  case yq25 => (intro w' hSw; (try dsimp only at hSw); go_simp; first | done | with_reducible rfl)
  (try simp only [Act.put, List.setIfInBounds_toArray, List.set_cons_zero, List.set_cons_succ])
  refine wpAnyH_done (by kernel_rfl) ?_ _
  refine NoPanic.normal ?_
  go_wp2
  go_ret
  exact ⟨by first | done | rfl, by exact below_⟩
set_option maxRecDepth 100000 in
set_option maxHeartbeats 4000000 in
theorem matAlike_n (a : Fr) (w : World) (hv : mvalid (⟨a, ⟨0, 0, 1⟩, ⟨0, 0, 1⟩, a⟩ : Mt) = true) (hZ : GZ w) (hc : crossB ⟨a, ⟨0, 0, 1⟩, ⟨0, 0, 1⟩, a⟩ (⟨⟨1, 0, 1⟩, ⟨0, 0, 1⟩, ⟨0, 0, 1⟩, ⟨1, 0, 1⟩⟩ : Mt) = true) (hne : a ≠ ⟨0, 0, 1⟩) :
    Calls Tryd.prog 35 #[mtv (⟨a, ⟨0, 0, 1⟩, ⟨0, 0, 1⟩, a⟩ : Mt), mtv (⟨⟨1, 0, 1⟩, ⟨0, 0, 1⟩, ⟨0, 0, 1⟩, ⟨1, 0, 1⟩⟩ : Mt)] w fun e w' => e = .returned (.bool true) ∧ Below w.heap.size w w' := by
  have HV := Lib.hid hv
  have HC := Lib.hid hc
  have HV1 := Lib.hid (show mvalid (⟨⟨1, 0, 1⟩, ⟨0, 0, 1⟩, ⟨0, 0, 1⟩, ⟨1, 0, 1⟩⟩ : Mt) = true by decide)
  have HNE : ∀ w : World, (Op.equalIn 10000 42 (.agg #[.int .i64 a.re, .int .i64 a.im, .int .i64 a.den, .int .i64 0, .int .i64 0, .int .i64 1, .int .i64 0, .int .i64 0, .int .i64 1, .int .i64 a.re, .int .i64 a.im, .int .i64 a.den]) (.agg #[.int .i64 0, .int .i64 0, .int .i64 1, .int .i64 0, .int .i64 0, .int .i64 1, .int .i64 0, .int .i64 0, .int .i64 1, .int .i64 0, .int .i64 0, .int .i64 1])).run Tryd.prog w = .ok false w := fun w => eqM_ne a ⟨0, 0, 1⟩ ⟨0, 0, 1⟩ a (⟨⟨0, 0, 1⟩, ⟨0, 0, 1⟩, ⟨0, 0, 1⟩, ⟨0, 0, 1⟩⟩ : Mt) hne w
  have hgz := hZ.val
  have hgl := hZ.lts
  clear hv hc
  go_enter Tryd.func35, Tryd.ntmps35
  go_upto_region 2 with fail
  have hD : MA w (⟨a, ⟨0, 0, 1⟩, ⟨0, 0, 1⟩, a⟩ : Mt) (((w.alloc (.cells #[.int .i64 a.re, .int .i64 a.im, .int .i64 a.den, .int .i64 0, .int .i64 0, .int .i64 1, .int .i64 0, .int .i64 0, .int .i64 1, .int .i64 a.re, .int .i64 a.im, .int .i64 a.den] 44)).alloc (.cells #[.int .i64 1, .int .i64 0, .int .i64 1, .int .i64 0, .int .i64 0, .int .i64 1, .int .i64 0, .int .i64 0, .int .i64 1, .int .i64 1, .int .i64 0, .int .i64 1] 44)).alloc (.cells #[.int .i64 0, .int .i64 0, .int .i64 1, .int .i64 0, .int .i64 0, .int .i64 1, .int .i64 0, .int .i64 0, .int .i64 1, .int .i64 0, .int .i64 0, .int .i64 1] 42)) :=
    ⟨((MtAt.new w (⟨a, ⟨0, 0, 1⟩, ⟨0, 0, 1⟩, a⟩ : Mt) _).alloc _).alloc _, (MtAt.new' (by simp) (⟨⟨1, 0, 1⟩, ⟨0, 0, 1⟩, ⟨0, 0, 1⟩, ⟨1, 0, 1⟩⟩ : Mt) _).alloc _, MtAt.new' (by simp) (⟨⟨0, 0, 1⟩, ⟨0, 0, 1⟩, ⟨0, 0, 1⟩, ⟨0, 0, 1⟩⟩ : Mt) _, ((((Below.refl _ _).alloc (Nat.le_refl _) _).alloc (by simp) _).alloc (by simp; omega) _)⟩
  clear hgz hgl
  refine wp_region_noPanic ?_
  refine wp_region_held_drew (S := fun w' => w'.cell? ⟨w.heap.size, 0, none⟩ = some (.int .i64 a.re) ∧ w'.cell? ⟨w.heap.size, 1, none⟩ = some (.int .i64 a.im) ∧ w'.cell? ⟨w.heap.size, 2, none⟩ = some (.int .i64 a.den) ∧ w'.cell? ⟨w.heap.size, 3, none⟩ = some (.int .i64 0) ∧ w'.cell? ⟨w.heap.size, 4, none⟩ = some (.int .i64 0) ∧ w'.cell? ⟨w.heap.size, 5, none⟩ = some (.int .i64 1) ∧ w'.cell? ⟨w.heap.size, 6, none⟩ = some (.int .i64 0) ∧ w'.cell? ⟨w.heap.size, 7, none⟩ = some (.int .i64 0) ∧ w'.cell? ⟨w.heap.size, 8, none⟩ = some (.int .i64 1) ∧ w'.cell? ⟨w.heap.size, 9, none⟩ = some (.int .i64 a.re) ∧ w'.cell? ⟨w.heap.size, 10, none⟩ = some (.int .i64 a.im) ∧ w'.cell? ⟨w.heap.size, 11, none⟩ = some (.int .i64 a.den) ∧ w'.cell? ⟨w.heap.size + 1, 0, none⟩ = some (.int .i64 1) ∧ w'.cell? ⟨w.heap.size + 1, 1, none⟩ = some (.int .i64 0) ∧ w'.cell? ⟨w.heap.size + 1, 2, none⟩ = some (.int .i64 1) ∧ w'.cell? ⟨w.heap.size + 1, 3, none⟩ = some (.int .i64 0) ∧ w'.cell? ⟨w.heap.size + 1, 4, none⟩ = some (.int .i64 0) ∧ w'.cell? ⟨w.heap.size + 1, 5, none⟩ = some (.int .i64 1) ∧ w'.cell? ⟨w.heap.size + 1, 6, none⟩ = some (.int .i64 0) ∧ w'.cell? ⟨w.heap.size + 1, 7, none⟩ = some (.int .i64 0) ∧ w'.cell? ⟨w.heap.size + 1, 8, none⟩ = some (.int .i64 1) ∧ w'.cell? ⟨w.heap.size + 1, 9, none⟩ = some (.int .i64 1) ∧ w'.cell? ⟨w.heap.size + 1, 10, none⟩ = some (.int .i64 0) ∧ w'.cell? ⟨w.heap.size + 1, 11, none⟩ = some (.int .i64 1) ∧ w'.cell? ⟨w.heap.size + 1 + 1, 0, none⟩ = some (.int .i64 0) ∧ w'.cell? ⟨w.heap.size + 1 + 1, 1, none⟩ = some (.int .i64 0) ∧ w'.cell? ⟨w.heap.size + 1 + 1, 2, none⟩ = some (.int .i64 1) ∧ w'.cell? ⟨w.heap.size + 1 + 1, 3, none⟩ = some (.int .i64 0) ∧ w'.cell? ⟨w.heap.size + 1 + 1, 4, none⟩ = some (.int .i64 0) ∧ w'.cell? ⟨w.heap.size + 1 + 1, 5, none⟩ = some (.int .i64 1) ∧ w'.cell? ⟨w.heap.size + 1 + 1, 6, none⟩ = some (.int .i64 0) ∧ w'.cell? ⟨w.heap.size + 1 + 1, 7, none⟩ = some (.int .i64 0) ∧ w'.cell? ⟨w.heap.size + 1 + 1, 8, none⟩ = some (.int .i64 1) ∧ w'.cell? ⟨w.heap.size + 1 + 1, 9, none⟩ = some (.int .i64 0) ∧ w'.cell? ⟨w.heap.size + 1 + 1, 10, none⟩ = some (.int .i64 0) ∧ w'.cell? ⟨w.heap.size + 1 + 1, 11, none⟩ = some (.int .i64 1)) (by kernel_rfl) ?_ (fun hHeld => ?_)
  · (try dsimp only)
    (refine MA.cells (w := w) (p := (⟨a, ⟨0, 0, 1⟩, ⟨0, 0, 1⟩, a⟩ : Mt)) ?_; (repeat' (first | (with_reducible assumption) | (with_reducible apply MA.alloc) | (with_reducible apply MA.drewN) | (with_reducible apply MA.drew))))
  refine wpAnyH_take (i := 0) (v := ?vq26) (by simp; rfl) (by kernel_rfl) (by kernel_rfl) (by kernel_rfl) (fun _ _ _ h => h) (Or.inl ⟨by rfl, ?yq26⟩) (by assumption) ?rq26
  case yq26 => (intro w' hSw; (try dsimp only at hSw); go_simp; first | done | with_reducible rfl)
  (try simp only [Act.put, List.setIfInBounds_toArray, List.set_cons_zero, List.set_cons_succ])
  refine wpAnyH_ready (rs := [1]) (by kernel_rfl) (by simp) ?_
  refine AllReadyH.cons (by simp; rfl) (fun K hK => ?_) AllReadyH.nil
  go_simp
  (go_at_call 42; (with_reducible refine (ma_valid w (⟨a, ⟨0, 0, 1⟩, ⟨0, 0, 1⟩, a⟩ : Mt) (⟨a, ⟨0, 0, 1⟩, ⟨0, 0, 1⟩, a⟩ : Mt) HV _ (by (repeat' (first | (with_reducible assumption) | (with_reducible apply MA.alloc) | (with_reducible apply MA.drewN) | (with_reducible apply MA.drew))))).mono ?_); rintro e wd ⟨rfl, hD⟩; have hB := hD.B)
  refine hK.out _ _ ?_ (fun hHeld => ?_)
  · (try dsimp only)
    (refine MA.cells (w := w) (p := (⟨a, ⟨0, 0, 1⟩, ⟨0, 0, 1⟩, a⟩ : Mt)) ?_; (repeat' (first | (with_reducible assumption) | (with_reducible apply MA.alloc) | (with_reducible apply MA.drewN) | (with_reducible apply MA.drew))))
  clear hK K
  (try simp only [Act.put, List.setIfInBounds_toArray, List.set_cons_zero, List.set_cons_succ])
  refine wpAnyH_take (i := 2) (v := ?vq28) (by simp; rfl) (by kernel_rfl) (by kernel_rfl) (by kernel_rfl) (fun _ _ _ h => h) (Or.inl ⟨by rfl, ?yq28⟩) (by assumption) ?rq28
  case yq28 => (intro w' hSw; (try dsimp only at hSw); go_simp; first | done | with_reducible rfl)
  (try simp only [Act.put, List.setIfInBounds_toArray, List.set_cons_zero, List.set_cons_succ])
  refine wpAnyH_take (i := 3) (v := ?vq29) (by simp; rfl) (by kernel_rfl) (by kernel_rfl) (by kernel_rfl) (fun _ _ _ h => h) (Or.inl ⟨by rfl, ?yq29⟩) (by assumption) ?rq29
  case yq29 => (intro w' hSw; (try dsimp only at hSw); go_simp; first | done | with_reducible rfl)
  (try simp only [Act.put, List.setIfInBounds_toArray, List.set_cons_zero, List.set_cons_succ])
  refine wpAnyH_ready (rs := [4]) (by kernel_rfl) (by simp) ?_
  refine AllReadyH.cons (by simp; rfl) (fun K hK => ?_) AllReadyH.nil
  go_simp
  (go_at_call 42; (with_reducible refine (ma_valid w (⟨a, ⟨0, 0, 1⟩, ⟨0, 0, 1⟩, a⟩ : Mt) (⟨⟨1, 0, 1⟩, ⟨0, 0, 1⟩, ⟨0, 0, 1⟩, ⟨1, 0, 1⟩⟩ : Mt) HV1 _ (by (repeat' (first | (with_reducible assumption) | (with_reducible apply MA.alloc) | (with_reducible apply MA.drewN) | (with_reducible apply MA.drew))))).mono ?_); rintro e wd ⟨rfl, hD⟩; have hB := hD.B)
  refine hK.out _ _ ?_ (fun hHeld => ?_)
  · (try dsimp only)
    (refine MA.cells (w := w) (p := (⟨a, ⟨0, 0, 1⟩, ⟨0, 0, 1⟩, a⟩ : Mt)) ?_; (repeat' (first | (with_reducible assumption) | (with_reducible apply MA.alloc) | (with_reducible apply MA.drewN) | (with_reducible apply MA.drew))))
  clear hK K
  (try simp only [Act.put, List.setIfInBounds_toArray, List.set_cons_zero, List.set_cons_succ])
  refine wpAnyH_take (i := 5) (v := ?vq31) (by simp; rfl) (by kernel_rfl) (by kernel_rfl) (by kernel_rfl) (fun _ _ _ h => h) (Or.inl ⟨by rfl, ?yq31⟩) (by assumption) ?rq31
  case yq31 => (intro w' hSw; (try dsimp only at hSw); go_simp; first | done | with_reducible rfl)
  (try simp only [Act.put, List.setIfInBounds_toArray, List.set_cons_zero, List.set_cons_succ])
  refine wpAnyH_take (i := 6) (v := ?vq32) (by simp; rfl) (by kernel_rfl) (by kernel_rfl) (by kernel_rfl) (fun _ _ _ h => h) (Or.inl ⟨by rfl, ?yq32⟩) (by assumption) ?rq32
  case yq32 => (intro w' hSw; (try dsimp only at hSw); go_simp; first | done | with_reducible rfl)
  (try simp only [Act.put, List.setIfInBounds_toArray, List.set_cons_zero, List.set_cons_succ])
  refine wpAnyH_take (i := 7) (v := ?vq33) (by simp; rfl) (by kernel_rfl) (by kernel_rfl) (by kernel_rfl) (fun _ _ _ h => h) (Or.inl ⟨by rfl, ?yq33⟩) (by assumption) ?rq33
  case yq33 => (intro w' hSw; (try dsimp only at hSw); go_simp; first | done | with_reducible rfl)
  (try simp only [Act.put, List.setIfInBounds_toArray, List.set_cons_zero, List.set_cons_succ])
  refine wpAnyH_take (i := 8) (v := ?vq34) (by simp; rfl) (by kernel_rfl) (by kernel_rfl) (by kernel_rfl) (fun _ _ _ h => h) (Or.inl ⟨by rfl, ?yq34⟩) (by assumption) ?rq34
  case yq34 => (intro w' hSw; (try dsimp only at hSw); go_simp; first | done | with_reducible rfl)
  (try simp only [Act.put, List.setIfInBounds_toArray, List.set_cons_zero, List.set_cons_succ])
  refine wpAnyH_take (i := 9) (v := ?vq35) (by simp; rfl) (by kernel_rfl) (by kernel_rfl) (by kernel_rfl) (fun _ _ _ h => h) (Or.inl ⟨by rfl, ?yq35⟩) (by assumption) ?rq35
  case yq35 => (intro w' hSw; (try dsimp only at hSw); go_simp; first | done | with_reducible rfl)
  (try simp only [Act.put, List.setIfInBounds_toArray, List.set_cons_zero, List.set_cons_succ])
  refine wpAnyH_take (i := 10) (v := ?vq36) (by simp; rfl) (by kernel_rfl) (by kernel_rfl) (by kernel_rfl) (fun _ _ _ h => h) (Or.inl ⟨by rfl, ?yq36⟩) (by assumption) ?rq36
  case yq36 => (intro w' hSw; (try dsimp only at hSw); go_simp; first | done | with_reducible rfl)
  (try simp only [Act.put, List.setIfInBounds_toArray, List.set_cons_zero, List.set_cons_succ])
  refine wpAnyH_ready (rs := [11]) (by kernel_rfl) (by simp) ?_
  refine AllReadyH.cons (by simp; rfl) (fun K hK => ?_) AllReadyH.nil
  go_simp
  (go_at_call 62; (with_reducible refine (ma_crossed w (⟨a, ⟨0, 0, 1⟩, ⟨0, 0, 1⟩, a⟩ : Mt) HV true HC _ (by (repeat' (first | (with_reducible assumption) | (with_reducible apply MA.alloc) | (with_reducible apply MA.drewN) | (with_reducible apply MA.drew))))).mono ?_); rintro e wd ⟨rfl, hD⟩; have hB := hD.B)
  refine hK.out _ _ ?_ (fun hHeld => ?_)
  · (try dsimp only)
    (refine MA.cells (w := w) (p := (⟨a, ⟨0, 0, 1⟩, ⟨0, 0, 1⟩, a⟩ : Mt)) ?_; (repeat' (first | (with_reducible assumption) | (with_reducible apply MA.alloc) | (with_reducible apply MA.drewN) | (with_reducible apply MA.drew))))
  clear hK K
  (try simp only [Act.put, List.setIfInBounds_toArray, List.set_cons_zero, List.set_cons_succ])
  refine wpAnyH_take (i := 12) (v := ?vq38) (by simp; rfl) (by kernel_rfl) (by kernel_rfl) (by kernel_rfl) (fun _ _ _ h => h) (Or.inl ⟨by rfl, ?yq38⟩) (by assumption) ?rq38
  case yq38 => (intro w' hSw; (try dsimp only at hSw); go_simp; first | done | with_reducible rfl)
  (try simp only [Act.put, List.setIfInBounds_toArray, List.set_cons_zero, List.set_cons_succ])
  refine wpAnyH_take (i := 13) (v := ?vq39) (by simp; rfl) (by kernel_rfl) (by kernel_rfl) (by kernel_rfl) (fun _ _ _ h => h) (Or.inl ⟨by rfl, ?yq39⟩) (by assumption) ?rq39
  case yq39 => (intro w' hSw; (try dsimp only at hSw); go_simp; first | done | with_reducible rfl)
  (try simp only [Act.put, List.setIfInBounds_toArray, List.set_cons_zero, List.set_cons_succ])
  refine wpAnyH_take (i := 14) (v := ?vq40) (by simp; rfl) (by kernel_rfl) (by kernel_rfl) (by kernel_rfl) (fun _ _ _ h => h) (Or.inl ⟨by rfl, ?yq40⟩) (by assumption) ?rq40
  case yq40 => (intro w' hSw; (try dsimp only at hSw); go_simp; first | done | with_reducible rfl)
  (try simp only [Act.put, List.setIfInBounds_toArray, List.set_cons_zero, List.set_cons_succ])
  refine wpAnyH_take (i := 15) (v := ?vq41) (by simp; rfl) (by kernel_rfl) (by kernel_rfl) (by kernel_rfl) (fun _ _ _ h => h) (Or.inl ⟨by rfl, ?yq41⟩) (by assumption) ?rq41
  case yq41 => (intro w' hSw; (try dsimp only at hSw); go_simp; first | done | with_reducible rfl)
  (try simp only [Act.put, List.setIfInBounds_toArray, List.set_cons_zero, List.set_cons_succ])
  refine wpAnyH_take (i := 16) (v := ?vq42) (by simp; rfl) (by kernel_rfl) (by kernel_rfl) (by kernel_rfl) (fun _ _ _ h => h) (Or.inl ⟨by rfl, ?yq42⟩) (by assumption) ?rq42
  case yq42 => (intro w' hSw; (try dsimp only at hSw); go_simp; first | done | with_reducible rfl)
  (try simp only [Act.put, List.setIfInBounds_toArray, List.set_cons_zero, List.set_cons_succ])
  refine wpAnyH_take (i := 18) (v := ?vq43) (by simp; rfl) (by kernel_rfl) (by kernel_rfl) (by kernel_rfl) (fun _ _ _ h => h) (Or.inl ⟨by rfl, ?yq43⟩) (by assumption) ?rq43
  case yq43 => (intro w' hSw; (try dsimp only at hSw); go_simp; first | done | with_reducible rfl)
  (try simp only [Act.put, List.setIfInBounds_toArray, List.set_cons_zero, List.set_cons_succ])
  refine wpAnyH_take (i := 19) (v := ?vq44) (by simp; rfl) (by kernel_rfl) (by kernel_rfl) (by kernel_rfl) (fun _ _ _ h => h) (Or.inl ⟨by rfl, ?yq44⟩) (by assumption) ?rq44
  case yq44 => (intro w' hSw; (try dsimp only at hSw); go_simp; first | done | with_reducible rfl)
  (try simp only [Act.put, List.setIfInBounds_toArray, List.set_cons_zero, List.set_cons_succ])
  refine wpAnyH_take (i := 20) (v := ?vq45) (by simp; rfl) (by kernel_rfl) (by kernel_rfl) (by kernel_rfl) (fun _ _ _ h => h) (Or.inl ⟨by rfl, ?yq45⟩) (by assumption) ?rq45
  case yq45 => (intro w' hSw; (try dsimp only at hSw); go_simp; first | done | with_reducible rfl)
  (try simp only [Act.put, List.setIfInBounds_toArray, List.set_cons_zero, List.set_cons_succ])
  refine wpAnyH_ready (rs := [17, 21]) (by kernel_rfl) (by simp) ?_
  refine AllReadyH.cons (by simp; rfl) (fun K hK => ?_) ?_
  · go_simp
    go_wp2
    refine hK.out _ _ ?_ (fun hHeld => ?_)
    · (try dsimp only)
      (refine MA.cells (w := w) (p := (⟨a, ⟨0, 0, 1⟩, ⟨0, 0, 1⟩, a⟩ : Mt)) ?_; (repeat' (first | (with_reducible assumption) | (with_reducible apply MA.alloc) | (with_reducible apply MA.drewN) | (with_reducible apply MA.drew))))
    clear hK K
    (try simp only [Act.put, List.setIfInBounds_toArray, List.set_cons_zero, List.set_cons_succ])
    refine wpAnyH_ready (rs := [21]) (by kernel_rfl) (by simp) ?_
    refine AllReadyH.cons (by simp; rfl) (fun K hK => ?_) AllReadyH.nil
    go_simp
    go_wp2
    refine hK.out _ _ ?_ (fun hHeld => ?_)
    · (try dsimp only)
      (refine MA.cells (w := w) (p := (⟨a, ⟨0, 0, 1⟩, ⟨0, 0, 1⟩, a⟩ : Mt)) ?_; (repeat' (first | (with_reducible assumption) | (with_reducible apply MA.alloc) | (with_reducible apply MA.drewN) | (with_reducible apply MA.drew))))
    clear hK K
    (try simp only [Act.put, List.setIfInBounds_toArray, List.set_cons_zero, List.set_cons_succ])
    refine wpAnyH_ready (rs := [22]) (by kernel_rfl) (by simp) ?_
    refine AllReadyH.cons (by simp; rfl) (fun K hK => ?_) AllReadyH.nil
    go_simp
    refine hK.out _ _ ?_ (fun hHeld => ?_)
    · (try dsimp only)
      (refine MA.cells (w := w) (p := (⟨a, ⟨0, 0, 1⟩, ⟨0, 0, 1⟩, a⟩ : Mt)) ?_; (repeat' (first | (with_reducible assumption) | (with_reducible apply MA.alloc) | (with_reducible apply MA.drewN) | (with_reducible apply MA.drew))))
    clear hK K
    (try simp only [Act.put, List.setIfInBounds_toArray, List.set_cons_zero, List.set_cons_succ])
    refine wpAnyH_take (i := 23) (v := ?vq49) (by simp; rfl) (by kernel_rfl) (by kernel_rfl) (by kernel_rfl) (fun _ _ _ h => h) (Or.inl ⟨by rfl, ?yq49⟩) (by assumption) ?rq49
    case yq49 => (intro w' hSw; (try dsimp only at hSw); go_simp; first | done | with_reducible rfl)
    (try simp only [Act.put, List.setIfInBounds_toArray, List.set_cons_zero, List.set_cons_succ])
    refine wpAnyH_take (i := 24) (v := ?vq50) (by simp; rfl) (by kernel_rfl) (by kernel_rfl) (by kernel_rfl) (fun _ _ _ h => h) (Or.inl ⟨by rfl, ?yq50⟩) (by assumption) ?rq50
    case yq50 => (intro w' hSw; (try dsimp only at hSw); go_simp; first | done | with_reducible rfl)
    (try simp only [Act.put, List.setIfInBounds_toArray, List.set_cons_zero, List.set_cons_succ])
    refine wpAnyH_done (by kernel_rfl) ?_ _
    refine NoPanic.normal ?_
    go_wp2
    go_ret
    exact ⟨by first | done | rfl, by exact below_⟩
  refine AllReadyH.cons (by simp; rfl) (fun K hK => ?_) AllReadyH.nil
  go_simp
  go_wp2
  refine hK.out _ _ ?_ (fun hHeld => ?_)
  · (try dsimp only)
    (refine MA.cells (w := w) (p := (⟨a, ⟨0, 0, 1⟩, ⟨0, 0, 1⟩, a⟩ : Mt)) ?_; (repeat' (first | (with_reducible assumption) | (with_reducible apply MA.alloc) | (with_reducible apply MA.drewN) | (with_reducible apply MA.drew))))
  clear hK K
  (try simp only [Act.put, List.setIfInBounds_toArray, List.set_cons_zero, List.set_cons_succ])
  refine wpAnyH_ready (rs := [17]) (by kernel_rfl) (by simp) ?_
  refine AllReadyH.cons (by simp; rfl) (fun K hK => ?_) AllReadyH.nil
  go_simp
  go_wp2
  refine hK.out _ _ ?_ (fun hHeld => ?_)
  · (try dsimp only)
    (refine MA.cells (w := w) (p := (⟨a, ⟨0, 0, 1⟩, ⟨0, 0, 1⟩, a⟩ : Mt)) ?_; (repeat' (first | (with_reducible assumption) | (with_reducible apply MA.alloc) | (with_reducible apply MA.drewN) | (with_reducible apply MA.drew))))
  clear hK K
  (try simp only [Act.put, List.setIfInBounds_toArray, List.set_cons_zero, List.set_cons_succ])
  refine wpAnyH_ready (rs := [22]) (by kernel_rfl) (by simp) ?_
  refine AllReadyH.cons (by simp; rfl) (fun K hK => ?_) AllReadyH.nil
  go_simp
  refine hK.out _ _ ?_ (fun hHeld => ?_)
  · (try dsimp only)
    (refine MA.cells (w := w) (p := (⟨a, ⟨0, 0, 1⟩, ⟨0, 0, 1⟩, a⟩ : Mt)) ?_; (repeat' (first | (with_reducible assumption) | (with_reducible apply MA.alloc) | (with_reducible apply MA.drewN) | (with_reducible apply MA.drew))))
  clear hK K
  (try simp only [Act.put, List.setIfInBounds_toArray, List.set_cons_zero, List.set_cons_succ])
  refine wpAnyH_take (i := 23) (v := ?vq53) (by simp; rfl) (by kernel_rfl) (by kernel_rfl) (by kernel_rfl) (fun _ _ _ h => h) (Or.inl ⟨by rfl, ?yq53⟩) (by assumption) ?rq53
  case yq53 => (intro w' hSw; (try dsimp only at hSw); go_simp; first | done | with_reducible rfl)
  (try simp only [Act.put, List.setIfInBounds_toArray, List.set_cons_zero, List.set_cons_succ])
  refine wpAnyH_take (i := 24) (v := ?vq54) (by simp; rfl) (by kernel_rfl) (by kernel_rfl) (by kernel_rfl) (fun _ _ _ h => h) (Or.inl ⟨by rfl, ?yq54⟩) (by assumption) ?rq54
  case yq54 => (intro w' hSw; (try dsimp only at hSw); go_simp; first | done | with_reducible rfl)
  (try simp only [Act.put, List.setIfInBounds_toArray, List.set_cons_zero, List.set_cons_succ])
  refine wpAnyH_done (by kernel_rfl) ?_ _
  refine NoPanic.normal ?_
  go_wp2
  go_ret
  exact ⟨by first | done | rfl, by exact below_⟩
set_option maxRecDepth 100000 in
set_option maxHeartbeats 4000000 in
theorem matAlike_z  (w : World) (hv : mvalid (⟨⟨0, 0, 1⟩, ⟨0, 0, 1⟩, ⟨0, 0, 1⟩, ⟨0, 0, 1⟩⟩ : Mt) = true) (hZ : GZ w) (hc : crossB (⟨⟨0, 0, 1⟩, ⟨0, 0, 1⟩, ⟨0, 0, 1⟩, ⟨0, 0, 1⟩⟩ : Mt) (⟨⟨1, 0, 1⟩, ⟨0, 0, 1⟩, ⟨0, 0, 1⟩, ⟨1, 0, 1⟩⟩ : Mt) = true) :
    Calls Tryd.prog 35 #[mtv (⟨⟨0, 0, 1⟩, ⟨0, 0, 1⟩, ⟨0, 0, 1⟩, ⟨0, 0, 1⟩⟩ : Mt), mtv (⟨⟨1, 0, 1⟩, ⟨0, 0, 1⟩, ⟨0, 0, 1⟩, ⟨1, 0, 1⟩⟩ : Mt)] w fun e w' => e = .returned (.bool false) ∧ Below w.heap.size w w' := by
  have HV := Lib.hid hv
  have HC := Lib.hid hc
  have HV1 := Lib.hid (show mvalid (⟨⟨1, 0, 1⟩, ⟨0, 0, 1⟩, ⟨0, 0, 1⟩, ⟨1, 0, 1⟩⟩ : Mt) = true by decide)
  have hgz := hZ.val
  have hgl := hZ.lts
  clear hv hc
  go_enter Tryd.func35, Tryd.ntmps35
  go_upto_region 2 with fail
  have hD : MA w (⟨⟨0, 0, 1⟩, ⟨0, 0, 1⟩, ⟨0, 0, 1⟩, ⟨0, 0, 1⟩⟩ : Mt) (((w.alloc (.cells #[.int .i64 0, .int .i64 0, .int .i64 1, .int .i64 0, .int .i64 0, .int .i64 1, .int .i64 0, .int .i64 0, .int .i64 1, .int .i64 0, .int .i64 0, .int .i64 1] 44)).alloc (.cells #[.int .i64 1, .int .i64 0, .int .i64 1, .int .i64 0, .int .i64 0, .int .i64 1, .int .i64 0, .int .i64 0, .int .i64 1, .int .i64 1, .int .i64 0, .int .i64 1] 44)).alloc (.cells #[.int .i64 0, .int .i64 0, .int .i64 1, .int .i64 0, .int .i64 0, .int .i64 1, .int .i64 0, .int .i64 0, .int .i64 1, .int .i64 0, .int .i64 0, .int .i64 1] 42)) :=
    ⟨((MtAt.new w (⟨⟨0, 0, 1⟩, ⟨0, 0, 1⟩, ⟨0, 0, 1⟩, ⟨0, 0, 1⟩⟩ : Mt) _).alloc _).alloc _, (MtAt.new' (by simp) (⟨⟨1, 0, 1⟩, ⟨0, 0, 1⟩, ⟨0, 0, 1⟩, ⟨1, 0, 1⟩⟩ : Mt) _).alloc _, MtAt.new' (by simp) (⟨⟨0, 0, 1⟩, ⟨0, 0, 1⟩, ⟨0, 0, 1⟩, ⟨0, 0, 1⟩⟩ : Mt) _, ((((Below.refl _ _).alloc (Nat.le_refl _) _).alloc (by simp) _).alloc (by simp; omega) _)⟩
  clear hgz hgl
  refine wp_region_noPanic ?_
  refine wp_region_held_drew (S := fun w' => w'.cell? ⟨w.heap.size, 0, none⟩ = some (.int .i64 0) ∧ w'.cell? ⟨w.heap.size, 1, none⟩ = some (.int .i64 0) ∧ w'.cell? ⟨w.heap.size, 2, none⟩ = some (.int .i64 1) ∧ w'.cell? ⟨w.heap.size, 3, none⟩ = some (.int .i64 0) ∧ w'.cell? ⟨w.heap.size, 4, none⟩ = some (.int .i64 0) ∧ w'.cell? ⟨w.heap.size, 5, none⟩ = some (.int .i64 1) ∧ w'.cell? ⟨w.heap.size, 6, none⟩ = some (.int .i64 0) ∧ w'.cell? ⟨w.heap.size, 7, none⟩ = some (.int .i64 0) ∧ w'.cell? ⟨w.heap.size, 8, none⟩ = some (.int .i64 1) ∧ w'.cell? ⟨w.heap.size, 9, none⟩ = some (.int .i64 0) ∧ w'.cell? ⟨w.heap.size, 10, none⟩ = some (.int .i64 0) ∧ w'.cell? ⟨w.heap.size, 11, none⟩ = some (.int .i64 1) ∧ w'.cell? ⟨w.heap.size + 1, 0, none⟩ = some (.int .i64 1) ∧ w'.cell? ⟨w.heap.size + 1, 1, none⟩ = some (.int .i64 0) ∧ w'.cell? ⟨w.heap.size + 1, 2, none⟩ = some (.int .i64 1) ∧ w'.cell? ⟨w.heap.size + 1, 3, none⟩ = some (.int .i64 0) ∧ w'.cell? ⟨w.heap.size + 1, 4, none⟩ = some (.int .i64 0) ∧ w'.cell? ⟨w.heap.size + 1, 5, none⟩ = some (.int .i64 1) ∧ w'.cell? ⟨w.heap.size + 1, 6, none⟩ = some (.int .i64 0) ∧ w'.cell? ⟨w.heap.size + 1, 7, none⟩ = some (.int .i64 0) ∧ w'.cell? ⟨w.heap.size + 1, 8, none⟩ = some (.int .i64 1) ∧ w'.cell? ⟨w.heap.size + 1, 9, none⟩ = some (.int .i64 1) ∧ w'.cell? ⟨w.heap.size + 1, 10, none⟩ = some (.int .i64 0) ∧ w'.cell? ⟨w.heap.size + 1, 11, none⟩ = some (.int .i64 1) ∧ w'.cell? ⟨w.heap.size + 1 + 1, 0, none⟩ = some (.int .i64 0) ∧ w'.cell? ⟨w.heap.size + 1 + 1, 1, none⟩ = some (.int .i64 0) ∧ w'.cell? ⟨w.heap.size + 1 + 1, 2, none⟩ = some (.int .i64 1) ∧ w'.cell? ⟨w.heap.size + 1 + 1, 3, none⟩ = some (.int .i64 0) ∧ w'.cell? ⟨w.heap.size + 1 + 1, 4, none⟩ = some (.int .i64 0) ∧ w'.cell? ⟨w.heap.size + 1 + 1, 5, none⟩ = some (.int .i64 1) ∧ w'.cell? ⟨w.heap.size + 1 + 1, 6, none⟩ = some (.int .i64 0) ∧ w'.cell? ⟨w.heap.size + 1 + 1, 7, none⟩ = some (.int .i64 0) ∧ w'.cell? ⟨w.heap.size + 1 + 1, 8, none⟩ = some (.int .i64 1) ∧ w'.cell? ⟨w.heap.size + 1 + 1, 9, none⟩ = some (.int .i64 0) ∧ w'.cell? ⟨w.heap.size + 1 + 1, 10, none⟩ = some (.int .i64 0) ∧ w'.cell? ⟨w.heap.size + 1 + 1, 11, none⟩ = some (.int .i64 1)) (by kernel_rfl) ?_ (fun hHeld => ?_)
  · (try dsimp only)
    (refine MA.cells (w := w) (p := (⟨⟨0, 0, 1⟩, ⟨0, 0, 1⟩, ⟨0, 0, 1⟩, ⟨0, 0, 1⟩⟩ : Mt)) ?_; (repeat' (first | (with_reducible assumption) | (with_reducible apply MA.alloc) | (with_reducible apply MA.drewN) | (with_reducible apply MA.drew))))
  refine wpAnyH_take (i := 0) (v := ?vq55) (by simp; rfl) (by kernel_rfl) (by kernel_rfl) (by kernel_rfl) (fun _ _ _ h => h) (Or.inl ⟨by rfl, ?yq55⟩) (by assumption) ?rq55
  case yq55 => (intro w' hSw; (try dsimp only at hSw); go_simp; first | done | with_reducible rfl)
  (try simp only [Act.put, List.setIfInBounds_toArray, List.set_cons_zero, List.set_cons_succ])
  refine wpAnyH_ready (rs := [1]) (by kernel_rfl) (by simp) ?_
  refine AllReadyH.cons (by simp; rfl) (fun K hK => ?_) AllReadyH.nil
  go_simp
  (go_at_call 42; (with_reducible refine (ma_valid w (⟨⟨0, 0, 1⟩, ⟨0, 0, 1⟩, ⟨0, 0, 1⟩, ⟨0, 0, 1⟩⟩ : Mt) (⟨⟨0, 0, 1⟩, ⟨0, 0, 1⟩, ⟨0, 0, 1⟩, ⟨0, 0, 1⟩⟩ : Mt) HV _ (by (repeat' (first | (with_reducible assumption) | (with_reducible apply MA.alloc) | (with_reducible apply MA.drewN) | (with_reducible apply MA.drew))))).mono ?_); rintro e wd ⟨rfl, hD⟩; have hB := hD.B)
  refine hK.out _ _ ?_ (fun hHeld => ?_)
  · (try dsimp only)
    (refine MA.cells (w := w) (p := (⟨⟨0, 0, 1⟩, ⟨0, 0, 1⟩, ⟨0, 0, 1⟩, ⟨0, 0, 1⟩⟩ : Mt)) ?_; (repeat' (first | (with_reducible assumption) | (with_reducible apply MA.alloc) | (with_reducible apply MA.drewN) | (with_reducible apply MA.drew))))
  clear hK K
  (try simp only [Act.put, List.setIfInBounds_toArray, List.set_cons_zero, List.set_cons_succ])
  refine wpAnyH_take (i := 2) (v := ?vq57) (by simp; rfl) (by kernel_rfl) (by kernel_rfl) (by kernel_rfl) (fun _ _ _ h => h) (Or.inl ⟨by rfl, ?yq57⟩) (by assumption) ?rq57
  case yq57 => (intro w' hSw; (try dsimp only at hSw); go_simp; first | done | with_reducible rfl)
  (try simp only [Act.put, List.setIfInBounds_toArray, List.set_cons_zero, List.set_cons_succ])
  refine wpAnyH_take (i := 3) (v := ?vq58) (by simp; rfl) (by kernel_rfl) (by kernel_rfl) (by kernel_rfl) (fun _ _ _ h => h) (Or.inl ⟨by rfl, ?yq58⟩) (by assumption) ?rq58
  case yq58 => (intro w' hSw; (try dsimp only at hSw); go_simp; first | done | with_reducible rfl)
  (try simp only [Act.put, List.setIfInBounds_toArray, List.set_cons_zero, List.set_cons_succ])
  refine wpAnyH_ready (rs := [4]) (by kernel_rfl) (by simp) ?_
  refine AllReadyH.cons (by simp; rfl) (fun K hK => ?_) AllReadyH.nil
  go_simp
  (go_at_call 42; (with_reducible refine (ma_valid w (⟨⟨0, 0, 1⟩, ⟨0, 0, 1⟩, ⟨0, 0, 1⟩, ⟨0, 0, 1⟩⟩ : Mt) (⟨⟨1, 0, 1⟩, ⟨0, 0, 1⟩, ⟨0, 0, 1⟩, ⟨1, 0, 1⟩⟩ : Mt) HV1 _ (by (repeat' (first | (with_reducible assumption) | (with_reducible apply MA.alloc) | (with_reducible apply MA.drewN) | (with_reducible apply MA.drew))))).mono ?_); rintro e wd ⟨rfl, hD⟩; have hB := hD.B)
  refine hK.out _ _ ?_ (fun hHeld => ?_)
  · (try dsimp only)
    (refine MA.cells (w := w) (p := (⟨⟨0, 0, 1⟩, ⟨0, 0, 1⟩, ⟨0, 0, 1⟩, ⟨0, 0, 1⟩⟩ : Mt)) ?_; (repeat' (first | (with_reducible assumption) | (with_reducible apply MA.alloc) | (with_reducible apply MA.drewN) | (with_reducible apply MA.drew))))
  clear hK K
  (try simp only [Act.put, List.setIfInBounds_toArray, List.set_cons_zero, List.set_cons_succ])
  refine wpAnyH_take (i := 5) (v := ?vq60) (by simp; rfl) (by kernel_rfl) (by kernel_rfl) (by kernel_rfl) (fun _ _ _ h => h) (Or.inl ⟨by rfl, ?yq60⟩) (by assumption) ?rq60
  case yq60 => (intro w' hSw; (try dsimp only at hSw); go_simp; first | done | with_reducible rfl)
  (try simp only [Act.put, List.setIfInBounds_toArray, List.set_cons_zero, List.set_cons_succ])
  refine wpAnyH_take (i := 6) (v := ?vq61) (by simp; rfl) (by kernel_rfl) (by kernel_rfl) (by kernel_rfl) (fun _ _ _ h => h) (Or.inl ⟨by rfl, ?yq61⟩) (by assumption) ?rq61
  case yq61 => (intro w' hSw; (try dsimp only at hSw); go_simp; first | done | with_reducible rfl)
  (try simp only [Act.put, List.setIfInBounds_toArray, List.set_cons_zero, List.set_cons_succ])
  refine wpAnyH_take (i := 7) (v := ?vq62) (by simp; rfl) (by kernel_rfl) (by kernel_rfl) (by kernel_rfl) (fun _ _ _ h => h) (Or.inl ⟨by rfl, ?yq62⟩) (by assumption) ?rq62
  case yq62 => (intro w' hSw; (try dsimp only at hSw); go_simp; first | done | with_reducible rfl)
  (try simp only [Act.put, List.setIfInBounds_toArray, List.set_cons_zero, List.set_cons_succ])
  refine wpAnyH_take (i := 8) (v := ?vq63) (by simp; rfl) (by kernel_rfl) (by kernel_rfl) (by kernel_rfl) (fun _ _ _ h => h) (Or.inl ⟨by rfl, ?yq63⟩) (by assumption) ?rq63
  case yq63 => (intro w' hSw; (try dsimp only at hSw); go_simp; first | done | with_reducible rfl)
  (try simp only [Act.put, List.setIfInBounds_toArray, List.set_cons_zero, List.set_cons_succ])
  refine wpAnyH_take (i := 9) (v := ?vq64) (by simp; rfl) (by kernel_rfl) (by kernel_rfl) (by kernel_rfl) (fun _ _ _ h => h) (Or.inl ⟨by rfl, ?yq64⟩) (by assumption) ?rq64
  case yq64 => (intro w' hSw; (try dsimp only at hSw); go_simp; first | done | with_reducible rfl)
  (try simp only [Act.put, List.setIfInBounds_toArray, List.set_cons_zero, List.set_cons_succ])
  refine wpAnyH_take (i := 10) (v := ?vq65) (by simp; rfl) (by kernel_rfl) (by kernel_rfl) (by kernel_rfl) (fun _ _ _ h => h) (Or.inl ⟨by rfl, ?yq65⟩) (by assumption) ?rq65
  case yq65 => (intro w' hSw; (try dsimp only at hSw); go_simp; first | done | with_reducible rfl)
  (try simp only [Act.put, List.setIfInBounds_toArray, List.set_cons_zero, List.set_cons_succ])
  refine wpAnyH_ready (rs := [11]) (by kernel_rfl) (by simp) ?_
  refine AllReadyH.cons (by simp; rfl) (fun K hK => ?_) AllReadyH.nil
  go_simp
  (go_at_call 62; (with_reducible refine (ma_crossed w (⟨⟨0, 0, 1⟩, ⟨0, 0, 1⟩, ⟨0, 0, 1⟩, ⟨0, 0, 1⟩⟩ : Mt) HV true HC _ (by (repeat' (first | (with_reducible assumption) | (with_reducible apply MA.alloc) | (with_reducible apply MA.drewN) | (with_reducible apply MA.drew))))).mono ?_); rintro e wd ⟨rfl, hD⟩; have hB := hD.B)
  refine hK.out _ _ ?_ (fun hHeld => ?_)
  · (try dsimp only)
    (refine MA.cells (w := w) (p := (⟨⟨0, 0, 1⟩, ⟨0, 0, 1⟩, ⟨0, 0, 1⟩, ⟨0, 0, 1⟩⟩ : Mt)) ?_; (repeat' (first | (with_reducible assumption) | (with_reducible apply MA.alloc) | (with_reducible apply MA.drewN) | (with_reducible apply MA.drew))))
  clear hK K
  (try simp only [Act.put, List.setIfInBounds_toArray, List.set_cons_zero, List.set_cons_succ])
  refine wpAnyH_take (i := 12) (v := ?vq67) (by simp; rfl) (by kernel_rfl) (by kernel_rfl) (by kernel_rfl) (fun _ _ _ h => h) (Or.inl ⟨by rfl, ?yq67⟩) (by assumption) ?rq67
  case yq67 => (intro w' hSw; (try dsimp only at hSw); go_simp; first | done | with_reducible rfl)
  (try simp only [Act.put, List.setIfInBounds_toArray, List.set_cons_zero, List.set_cons_succ])
  refine wpAnyH_take (i := 13) (v := ?vq68) (by simp; rfl) (by kernel_rfl) (by kernel_rfl) (by kernel_rfl) (fun _ _ _ h => h) (Or.inl ⟨by rfl, ?yq68⟩) (by assumption) ?rq68
  case yq68 => (intro w' hSw; (try dsimp only at hSw); go_simp; first | done | with_reducible rfl)
  (try simp only [Act.put, List.setIfInBounds_toArray, List.set_cons_zero, List.set_cons_succ])
  refine wpAnyH_take (i := 14) (v := ?vq69) (by simp; rfl) (by kernel_rfl) (by kernel_rfl) (by kernel_rfl) (fun _ _ _ h => h) (Or.inl ⟨by rfl, ?yq69⟩) (by assumption) ?rq69
  case yq69 => (intro w' hSw; (try dsimp only at hSw); go_simp; first | done | with_reducible rfl)
  (try simp only [Act.put, List.setIfInBounds_toArray, List.set_cons_zero, List.set_cons_succ])
  refine wpAnyH_take (i := 15) (v := ?vq70) (by simp; rfl) (by kernel_rfl) (by kernel_rfl) (by kernel_rfl) (fun _ _ _ h => h) (Or.inl ⟨by rfl, ?yq70⟩) (by assumption) ?rq70
  case yq70 => (intro w' hSw; (try dsimp only at hSw); go_simp; first | done | with_reducible rfl)
  (try simp only [Act.put, List.setIfInBounds_toArray, List.set_cons_zero, List.set_cons_succ])
  refine wpAnyH_take (i := 16) (v := ?vq71) (by simp; rfl) (by kernel_rfl) (by kernel_rfl) (by kernel_rfl) (fun _ _ _ h => h) (Or.inl ⟨by rfl, ?yq71⟩) (by assumption) ?rq71
  case yq71 => (intro w' hSw; (try dsimp only at hSw); go_simp; first | done | with_reducible rfl)
  (try simp only [Act.put, List.setIfInBounds_toArray, List.set_cons_zero, List.set_cons_succ])
  refine wpAnyH_take (i := 18) (v := ?vq72) (by simp; rfl) (by kernel_rfl) (by kernel_rfl) (by kernel_rfl) (fun _ _ _ h => h) (Or.inl ⟨by rfl, ?yq72⟩) (by assumption) ?rq72
  case yq72 => (intro w' hSw; (try dsimp only at hSw); go_simp; first | done | with_reducible rfl)
  (try simp only [Act.put, List.setIfInBounds_toArray, List.set_cons_zero, List.set_cons_succ])
  refine wpAnyH_take (i := 19) (v := ?vq73) (by simp; rfl) (by kernel_rfl) (by kernel_rfl) (by kernel_rfl) (fun _ _ _ h => h) (Or.inl ⟨by rfl, ?yq73⟩) (by assumption) ?rq73
  case yq73 => (intro w' hSw; (try dsimp only at hSw); go_simp; first | done | with_reducible rfl)
  (try simp only [Act.put, List.setIfInBounds_toArray, List.set_cons_zero, List.set_cons_succ])
  refine wpAnyH_take (i := 20) (v := ?vq74) (by simp; rfl) (by kernel_rfl) (by kernel_rfl) (by kernel_rfl) (fun _ _ _ h => h) (Or.inl ⟨by rfl, ?yq74⟩) (by assumption) ?rq74
  case yq74 => (intro w' hSw; (try dsimp only at hSw); go_simp; first | done | with_reducible rfl)
  (try simp only [Act.put, List.setIfInBounds_toArray, List.set_cons_zero, List.set_cons_succ])
  refine wpAnyH_ready (rs := [17, 21]) (by kernel_rfl) (by simp) ?_
  refine AllReadyH.cons (by simp; rfl) (fun K hK => ?_) ?_
  · go_simp
    go_wp2
    refine hK.out _ _ ?_ (fun hHeld => ?_)
    · (try dsimp only)
      (refine MA.cells (w := w) (p := (⟨⟨0, 0, 1⟩, ⟨0, 0, 1⟩, ⟨0, 0, 1⟩, ⟨0, 0, 1⟩⟩ : Mt)) ?_; (repeat' (first | (with_reducible assumption) | (with_reducible apply MA.alloc) | (with_reducible apply MA.drewN) | (with_reducible apply MA.drew))))
    clear hK K
    (try simp only [Act.put, List.setIfInBounds_toArray, List.set_cons_zero, List.set_cons_succ])
    refine wpAnyH_ready (rs := [21]) (by kernel_rfl) (by simp) ?_
    refine AllReadyH.cons (by simp; rfl) (fun K hK => ?_) AllReadyH.nil
    go_simp
    go_wp2
    refine hK.out _ _ ?_ (fun hHeld => ?_)
    · (try dsimp only)
      (refine MA.cells (w := w) (p := (⟨⟨0, 0, 1⟩, ⟨0, 0, 1⟩, ⟨0, 0, 1⟩, ⟨0, 0, 1⟩⟩ : Mt)) ?_; (repeat' (first | (with_reducible assumption) | (with_reducible apply MA.alloc) | (with_reducible apply MA.drewN) | (with_reducible apply MA.drew))))
    clear hK K
    (try simp only [Act.put, List.setIfInBounds_toArray, List.set_cons_zero, List.set_cons_succ])
    refine wpAnyH_ready (rs := [22]) (by kernel_rfl) (by simp) ?_
    refine AllReadyH.cons (by simp; rfl) (fun K hK => ?_) AllReadyH.nil
    go_simp
    refine hK.out _ _ ?_ (fun hHeld => ?_)
    · (try dsimp only)
      (refine MA.cells (w := w) (p := (⟨⟨0, 0, 1⟩, ⟨0, 0, 1⟩, ⟨0, 0, 1⟩, ⟨0, 0, 1⟩⟩ : Mt)) ?_; (repeat' (first | (with_reducible assumption) | (with_reducible apply MA.alloc) | (with_reducible apply MA.drewN) | (with_reducible apply MA.drew))))
    clear hK K
    (try simp only [Act.put, List.setIfInBounds_toArray, List.set_cons_zero, List.set_cons_succ])
    refine wpAnyH_take (i := 23) (v := ?vq78) (by simp; rfl) (by kernel_rfl) (by kernel_rfl) (by kernel_rfl) (fun _ _ _ h => h) (Or.inl ⟨by rfl, ?yq78⟩) (by assumption) ?rq78
    case yq78 => (intro w' hSw; (try dsimp only at hSw); go_simp; first | done | with_reducible rfl)
    (try simp only [Act.put, List.setIfInBounds_toArray, List.set_cons_zero, List.set_cons_succ])
    refine wpAnyH_take (i := 24) (v := ?vq79) (by simp; rfl) (by kernel_rfl) (by kernel_rfl) (by kernel_rfl) (fun _ _ _ h => h) (Or.inl ⟨by rfl, ?yq79⟩) (by assumption) ?rq79
    case yq79 => (intro w' hSw; (try dsimp only at hSw); go_simp; first | done | with_reducible rfl)
    (try simp only [Act.put, List.setIfInBounds_toArray, List.set_cons_zero, List.set_cons_succ])
    refine wpAnyH_done (by kernel_rfl) ?_ _
    refine NoPanic.normal ?_
    go_wp2
    go_ret
    exact ⟨by first | done | rfl, by exact below_⟩
  refine AllReadyH.cons (by simp; rfl) (fun K hK => ?_) AllReadyH.nil
  go_simp
  go_wp2
  refine hK.out _ _ ?_ (fun hHeld => ?_)
  · (try dsimp only)
    (refine MA.cells (w := w) (p := (⟨⟨0, 0, 1⟩, ⟨0, 0, 1⟩, ⟨0, 0, 1⟩, ⟨0, 0, 1⟩⟩ : Mt)) ?_; (repeat' (first | (with_reducible assumption) | (with_reducible apply MA.alloc) | (with_reducible apply MA.drewN) | (with_reducible apply MA.drew))))
  clear hK K
  (try simp only [Act.put, List.setIfInBounds_toArray, List.set_cons_zero, List.set_cons_succ])
  refine wpAnyH_ready (rs := [17]) (by kernel_rfl) (by simp) ?_
  refine AllReadyH.cons (by simp; rfl) (fun K hK => ?_) AllReadyH.nil
  go_simp
  go_wp2
  refine hK.out _ _ ?_ (fun hHeld => ?_)
  · (try dsimp only)
    (refine MA.cells (w := w) (p := (⟨⟨0, 0, 1⟩, ⟨0, 0, 1⟩, ⟨0, 0, 1⟩, ⟨0, 0, 1⟩⟩ : Mt)) ?_; (repeat' (first | (with_reducible assumption) | (with_reducible apply MA.alloc) | (with_reducible apply MA.drewN) | (with_reducible apply MA.drew))))
  clear hK K
  (try simp only [Act.put, List.setIfInBounds_toArray, List.set_cons_zero, List.set_cons_succ])
  refine wpAnyH_ready (rs := [22]) (by kernel_rfl) (by simp) ?_
  refine AllReadyH.cons (by simp; rfl) (fun K hK => ?_) AllReadyH.nil
  go_simp
  refine hK.out _ _ ?_ (fun hHeld => ?_)
  · (try dsimp only)
    (refine MA.cells (w := w) (p := (⟨⟨0, 0, 1⟩, ⟨0, 0, 1⟩, ⟨0, 0, 1⟩, ⟨0, 0, 1⟩⟩ : Mt)) ?_; (repeat' (first | (with_reducible assumption) | (with_reducible apply MA.alloc) | (with_reducible apply MA.drewN) | (with_reducible apply MA.drew))))
  clear hK K
  (try simp only [Act.put, List.setIfInBounds_toArray, List.set_cons_zero, List.set_cons_succ])
  refine wpAnyH_take (i := 23) (v := ?vq82) (by simp; rfl) (by kernel_rfl) (by kernel_rfl) (by kernel_rfl) (fun _ _ _ h => h) (Or.inl ⟨by rfl, ?yq82⟩) (by assumption) ?rq82
  case yq82 => (intro w' hSw; (try dsimp only at hSw); go_simp; first | done | with_reducible rfl)
  (try simp only [Act.put, List.setIfInBounds_toArray, List.set_cons_zero, List.set_cons_succ])
  refine wpAnyH_take (i := 24) (v := ?vq83) (by simp; rfl) (by kernel_rfl) (by kernel_rfl) (by kernel_rfl) (fun _ _ _ h => h) (Or.inl ⟨by rfl, ?yq83⟩) (by assumption) ?rq83
  case yq83 => (intro w' hSw; (try dsimp only at hSw); go_simp; first | done | with_reducible rfl)
  (try simp only [Act.put, List.setIfInBounds_toArray, List.set_cons_zero, List.set_cons_succ])
  refine wpAnyH_done (by kernel_rfl) ?_ _
  refine NoPanic.normal ?_
  go_wp2
  go_ret
  exact ⟨by first | done | rfl, by exact below_⟩
end Go.Proofs.YtiagnnmnaakmoaaDoor
