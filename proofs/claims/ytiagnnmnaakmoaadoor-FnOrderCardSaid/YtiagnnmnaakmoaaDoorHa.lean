/-
  The walks of what compares vectors of light, program and reference, and of the products of a vector by a fraction.
-/
import Derived.Test.YtiagnnmnaakmoaaDoorHb
import Derived.WalkSpells
import Derived.Deep.CutRange
namespace Go.Proofs.YtiagnnmnaakmoaaDoor
set_option linter.unusedSimpArgs false
set_option linter.unusedVariables false
open Go.RowKit
attribute [local go_sem ↓] Go.wp_at_zero Go.wp_at_succ
theorem fr_eq (a b : Fr) : (a.re == b.re && (a.im == b.im && a.den == b.den)) = (a == b) := by
  obtain ⟨x, y, z⟩ := a
  obtain ⟨x', y', z'⟩ := b
  rw [Bool.eq_iff_iff]
  simp [Fr.mk.injEq]
theorem fr_zero (a : Fr) : (a.re == 0 && (a.im == 0 && a.den == 1)) = (a == ⟨0, 0, 1⟩) := fr_eq a ⟨0, 0, 1⟩
/-- The reference's darkness. -/
def ldark (a : Jn) : Bool := a.x.re == 0 && a.x.im == 0 && a.y.re == 0 && a.y.im == 0
theorem ldark_eq (a : Jn) (h : jvalid a = true) : ldark a = jdark a := by
  unfold jvalid at h
  simp only [Bool.and_eq_true] at h
  have h1 := fvalid_zero a.x h.1
  have h2 := fvalid_zero a.y h.2
  rw [fr_zero] at h1 h2
  unfold jdark ldark
  rw [h1, h2]
  simp [isZero, Bool.and_assoc]
set_option maxRecDepth 100000 in
set_option maxHeartbeats 1000000 in
theorem dark_any (a : Jn) (w : World) (hZ : GZ w) :
    Calls Tryd.prog 28 #[jnv a] w fun e w' => e = .returned (.bool (jdark a)) ∧ Below w.heap.size w w' := by
  have hgz := hZ.val
  have hgl := hZ.lts
  have e : jdark a = ((a.x.re == 0 && (a.x.im == 0 && a.x.den == 1)) && (a.y.re == 0 && (a.y.im == 0 && a.y.den == 1))) := by unfold jdark; rw [fr_zero, fr_zero]
  rw [e]
  clear e
  go_enter Tryd.func28, Tryd.ntmps28
  go_wp2
  all_goals (go_ret; exact ⟨by simp_all, by exact below_⟩)
set_option maxRecDepth 100000 in
set_option maxHeartbeats 1000000 in
theorem ldark_any (a : Jn) (w : World) :
    Calls Tryd.prog 24 #[jnv a] w fun e w' => e = .returned (.bool (ldark a)) ∧ Below w.heap.size w w' := by
  unfold ldark
  cases h1 : (a.x.re == 0)
  · go_enter Tryd.func24, Tryd.ntmps24
    go_wp2
    go_ret
    exact ⟨by simp, by exact below_⟩
  cases h2 : (a.x.im == 0)
  · go_enter Tryd.func24, Tryd.ntmps24
    go_wp2
    go_ret
    exact ⟨by simp, by exact below_⟩
  cases h3 : (a.y.re == 0)
  · go_enter Tryd.func24, Tryd.ntmps24
    go_wp2
    go_ret
    exact ⟨by simp, by exact below_⟩
  · go_enter Tryd.func24, Tryd.ntmps24
    go_wp2
    go_ret
    exact ⟨by simp, by exact below_⟩
/-- below: gen_ha -/
theorem JnAt.belX {w w' : World} {b br B : Nat} {m : Jn} (h : JnAt w b m) (hb : BelX B br w w') (hlt : b < B) (hne : b ≠ br) : JnAt w' b m :=
  h.same fun o => World.cell?_of_block (w := w) (hb.block b hlt hne)
theorem FrF.new' {w : World} {b : Nat} (hb : b = w.heap.size) (m : Fr) (t : TypeId) : FrF (w.alloc (.cells #[.int .i64 m.re, .int .i64 m.im, .int .i64 m.den] t)) b m := by subst hb; exact FrF.new w m t
theorem FrAt.new' {w : World} {b : Nat} (hb : b = w.heap.size) (m : Fr) (t : TypeId) : FrAt (w.alloc (.cells #[.int .i64 m.re, .int .i64 m.im, .int .i64 m.den] t)) b m := by subst hb; exact FrAt.new w m t
theorem FrF.at {w : World} {b : Nat} {m : Fr} (h : FrF w b m) : FrAt w b m := h.1
theorem FrF.drew {w : World} {b : Nat} {m : Fr} (h : FrF w b m) : FrF w.drew b m := h
theorem FrF.drewN {w : World} {b : Nat} {m : Fr} (h : FrF w b m) (n : Nat) : FrF (w.drewN n) b m := h
theorem FrAt.far {w : World} {b : Nat} {m : Fr} (h : FrAt w b m) {p : Addr} (hp : b ≠ p.block) (u : Value) : FrAt (w.setCell p u) b m := h.same fun o => World.cell?_setCell_other _ _ _ _ (fun e => hp (by rw [e]))
abbrev setF (W : World) (b : Nat) (y : Fr) : World := ((W.setCell ⟨b, 0, none⟩ (.int .i64 y.re)).setCell ⟨b, 1, none⟩ (.int .i64 y.im)).setCell ⟨b, 2, none⟩ (.int .i64 y.den)
theorem setF_at {W : World} {b : Nat} {y x : Fr} (h : FrAt W b x) : FrAt (setF W b y) b y := by
  obtain ⟨h0, h1, h2⟩ := h
  unfold setF
  refine ⟨?_, ?_, ?_⟩ <;> simp [cellSetSame, World.cell?_setCell_other, *]
/-- Both vectors and the reckoning lie as they did. -/
structure AC (w : World) (a b : Jn) (W : World) : Prop where
  ja : JnAt W w.heap.size a
  jb : JnAt W (w.heap.size + 1) b
  s : SumIs W (w.heap.size + 1 + 1) false
  B : Below w.heap.size w W
section
variable {w W w1 : World} {a b : Jn}
theorem AC.lt (h : AC w a b W) : w.heap.size + 1 + 1 < W.heap.size := h.s.lt
theorem AC.alloc (h : AC w a b W) (o : Obj) : AC w a b (W.alloc o) := ⟨h.ja.alloc o, h.jb.alloc o, h.s.alloc o, h.B.alloc h.B.size o⟩
theorem AC.drew (h : AC w a b W) : AC w a b W.drew := ⟨h.ja.drew, h.jb.drew, h.s.drew, h.B.drew⟩
theorem AC.drewN (h : AC w a b W) (n : Nat) : AC w a b (W.drewN n) := ⟨h.ja.drewN n, h.jb.drewN n, h.s.drewN n, below_drewN h.B n⟩
theorem AC.set (h : AC w a b W) {p : Addr} (hp : w.heap.size + 1 + 1 < p.block) (u : Value) : AC w a b (W.setCell p u) := ⟨h.ja.far (by omega) u, h.jb.far (by omega) u, h.s.far (by omega) u, h.B.setCell (by omega) u⟩
theorem AC.step (h : AC w a b W) (hx : BelX W.heap.size (w.heap.size + 1 + 1) W w1) (hs : SumIs w1 (w.heap.size + 1 + 1) false) : AC w a b w1 :=
  ⟨h.ja.belX hx (by have := h.lt; omega) (by omega), h.jb.belX hx (by have := h.lt; omega) (by omega), hs, (BelX.step (BelX.of h.B) hx h.B.size).below (by omega)⟩
theorem AC.cells (h : AC w a b W) : W.cell? ⟨w.heap.size, 0, none⟩ = some (.int .i64 a.x.re) ∧ W.cell? ⟨w.heap.size, 1, none⟩ = some (.int .i64 a.x.im) ∧ W.cell? ⟨w.heap.size, 2, none⟩ = some (.int .i64 a.x.den) ∧ W.cell? ⟨w.heap.size, 3, none⟩ = some (.int .i64 a.y.re) ∧ W.cell? ⟨w.heap.size, 4, none⟩ = some (.int .i64 a.y.im) ∧ W.cell? ⟨w.heap.size, 5, none⟩ = some (.int .i64 a.y.den) ∧ W.cell? ⟨w.heap.size + 1, 0, none⟩ = some (.int .i64 b.x.re) ∧ W.cell? ⟨w.heap.size + 1, 1, none⟩ = some (.int .i64 b.x.im) ∧ W.cell? ⟨w.heap.size + 1, 2, none⟩ = some (.int .i64 b.x.den) ∧ W.cell? ⟨w.heap.size + 1, 3, none⟩ = some (.int .i64 b.y.re) ∧ W.cell? ⟨w.heap.size + 1, 4, none⟩ = some (.int .i64 b.y.im) ∧ W.cell? ⟨w.heap.size + 1, 5, none⟩ = some (.int .i64 b.y.den) :=
  ⟨h.ja.1, h.ja.2.1, h.ja.2.2.1, h.ja.2.2.2.1, h.ja.2.2.2.2.1, h.ja.2.2.2.2.2, h.jb⟩
theorem t_p (w : World) (a b : Jn) (p : Fr) (W : World) (h : AC w a b W) (e : timesI a.x b.y = some p) :
    Calls Tryd.prog 46 #[.pointer (some ⟨w.heap.size + 1 + 1, 0, none⟩), frv a.x, frv b.y] W fun e w' => e = .returned (frv p) ∧ AC w a b w' ∧ BelX W.heap.size (w.heap.size + 1 + 1) W w' := by
  refine (x_times a.x b.y (w.heap.size + 1 + 1) W (SumEx.of h.s)).mono ?_
  rintro e1 w1 ⟨rfl, hu, hx⟩
  have hs := hu _ h.s
  rw [e] at hs
  refine ⟨by rw [e]; rfl, h.step hx hs, hx⟩
theorem t_q (w : World) (a b : Jn) (q : Fr) (W : World) (h : AC w a b W) (e : timesI a.y b.x = some q) :
    Calls Tryd.prog 46 #[.pointer (some ⟨w.heap.size + 1 + 1, 0, none⟩), frv a.y, frv b.x] W fun e w' => e = .returned (frv q) ∧ AC w a b w' ∧ BelX W.heap.size (w.heap.size + 1 + 1) W w' := by
  refine (x_times a.y b.x (w.heap.size + 1 + 1) W (SumEx.of h.s)).mono ?_
  rintro e1 w1 ⟨rfl, hu, hx⟩
  have hs := hu _ h.s
  rw [e] at hs
  refine ⟨by rw [e]; rfl, h.step hx hs, hx⟩
/-- Both products lie somewhere besides. -/
def AR (w : World) (a b : Jn) (p q : Fr) (s6 s7 : Value) (W : World) : Prop := ∃ bp bq : Nat, (s6 = .pointer (some ⟨bp, 0, none⟩) ∧ s7 = .pointer (some ⟨bq, 0, none⟩)) ∧ (FrAt W bp p ∧ FrAt W bq q) ∧ AC w a b W
variable {p q x y : Fr} {t : TypeId} {bp bq : Nat}
theorem AR.m1 (h : AC w a b W) : AR w a b p q (.pointer (some ⟨W.heap.size, 0, none⟩)) (.pointer (some ⟨W.heap.size + 1, 0, none⟩)) ((W.alloc (.cells #[.int .i64 p.re, .int .i64 p.im, .int .i64 p.den] t)).alloc (.cells #[.int .i64 q.re, .int .i64 q.im, .int .i64 q.den] t)) :=
  ⟨_, _, ⟨rfl, rfl⟩, ⟨(FrAt.new W p t).alloc _, FrAt.new' (by simp) q t⟩, (h.alloc _).alloc _⟩
theorem AR.m2 (h : AC w a b W) : AR w a b p q (.pointer (some ⟨W.heap.size + 1, 0, none⟩)) (.pointer (some ⟨W.heap.size, 0, none⟩)) ((W.alloc (.cells #[.int .i64 q.re, .int .i64 q.im, .int .i64 q.den] t)).alloc (.cells #[.int .i64 p.re, .int .i64 p.im, .int .i64 p.den] t)) :=
  ⟨_, _, ⟨rfl, rfl⟩, ⟨FrAt.new' (by simp) p t, (FrAt.new W q t).alloc _⟩, (h.alloc _).alloc _⟩
theorem AC.setF (h : AC w a b W) (hp : w.heap.size + 1 + 1 < bp) (y : Fr) : AC w a b (setF W bp y) := ((h.set (p := ⟨bp, 0, none⟩) hp _).set (p := ⟨bp, 1, none⟩) hp _).set (p := ⟨bp, 2, none⟩) hp _
theorem AR.m3 (h : AC w a b W) (hp : FrAt W bp x) (hl : w.heap.size + 1 + 1 < bp) : AR w a b p q (.pointer (some ⟨bp, 0, none⟩)) (.pointer (some ⟨W.heap.size, 0, none⟩)) ((setF W bp p).alloc (.cells #[.int .i64 q.re, .int .i64 q.im, .int .i64 q.den] t)) :=
  ⟨_, _, ⟨rfl, rfl⟩, ⟨(setF_at hp).alloc _, FrAt.new' (by simp [setF]) q t⟩, (h.setF hl p).alloc _⟩
theorem AR.m4 (h : AC w a b W) (hq : FrAt W bq x) (hl : w.heap.size + 1 + 1 < bq) : AR w a b p q (.pointer (some ⟨W.heap.size, 0, none⟩)) (.pointer (some ⟨bq, 0, none⟩)) ((setF W bq q).alloc (.cells #[.int .i64 p.re, .int .i64 p.im, .int .i64 p.den] t)) :=
  ⟨_, _, ⟨rfl, rfl⟩, ⟨FrAt.new' (by simp [setF]) p t, (setF_at hq).alloc _⟩, (h.setF hl q).alloc _⟩
theorem AR.m5 (h : AC w a b W) (hp : FrAt W bp x) (hq : FrAt W bq y) (hl : w.heap.size + 1 + 1 < bp) (hm : w.heap.size + 1 + 1 < bq) (hne : bp ≠ bq) : AR w a b p q (.pointer (some ⟨bp, 0, none⟩)) (.pointer (some ⟨bq, 0, none⟩)) (setF (setF W bp p) bq q) :=
  ⟨_, _, ⟨rfl, rfl⟩, ⟨(((setF_at hp).far (p := ⟨bq, 0, none⟩) hne _).far (p := ⟨bq, 1, none⟩) hne _).far (p := ⟨bq, 2, none⟩) hne _, setF_at (((hq.far (p := ⟨bp, 0, none⟩) hne.symm _).far (p := ⟨bp, 1, none⟩) hne.symm _).far (p := ⟨bp, 2, none⟩) hne.symm _)⟩, (h.setF hl p).setF hm q⟩
/-- With both products. -/
structure AD (w : World) (a b : Jn) (p q : Fr) (bp bq : Nat) (W : World) : Prop where
  A : AC w a b W
  p : FrAt W bp p
  q : FrAt W bq q
theorem AD.B (h : AD w a b p q bp bq W) : Below w.heap.size w W := h.A.B
theorem AD.alloc (h : AD w a b p q bp bq W) (o : Obj) : AD w a b p q bp bq (W.alloc o) := ⟨h.A.alloc o, h.p.alloc o, h.q.alloc o⟩
theorem AD.drew (h : AD w a b p q bp bq W) : AD w a b p q bp bq W.drew := ⟨h.A.drew, h.p, h.q⟩
theorem AD.drewN (h : AD w a b p q bp bq W) (n : Nat) : AD w a b p q bp bq (W.drewN n) := ⟨h.A.drewN n, h.p, h.q⟩
theorem AD.below (h : AD w a b p q bp bq W) (hb : Below W.heap.size W w1) : AD w a b p q bp bq w1 :=
  ⟨⟨h.A.ja.below hb h.A.ja.lt, h.A.jb.below hb h.A.jb.lt, h.A.s.below hb h.A.s.lt, bstep h.A.B hb h.A.B.size⟩, h.p.below hb h.p.lt, h.q.below hb h.q.lt⟩
theorem AD.cells (h : AD w a b p q bp bq W) : W.cell? ⟨w.heap.size, 0, none⟩ = some (.int .i64 a.x.re) ∧ W.cell? ⟨w.heap.size, 1, none⟩ = some (.int .i64 a.x.im) ∧ W.cell? ⟨w.heap.size, 2, none⟩ = some (.int .i64 a.x.den) ∧ W.cell? ⟨w.heap.size, 3, none⟩ = some (.int .i64 a.y.re) ∧ W.cell? ⟨w.heap.size, 4, none⟩ = some (.int .i64 a.y.im) ∧ W.cell? ⟨w.heap.size, 5, none⟩ = some (.int .i64 a.y.den) ∧ W.cell? ⟨w.heap.size + 1, 0, none⟩ = some (.int .i64 b.x.re) ∧ W.cell? ⟨w.heap.size + 1, 1, none⟩ = some (.int .i64 b.x.im) ∧ W.cell? ⟨w.heap.size + 1, 2, none⟩ = some (.int .i64 b.x.den) ∧ W.cell? ⟨w.heap.size + 1, 3, none⟩ = some (.int .i64 b.y.re) ∧ W.cell? ⟨w.heap.size + 1, 4, none⟩ = some (.int .i64 b.y.im) ∧ W.cell? ⟨w.heap.size + 1, 5, none⟩ = some (.int .i64 b.y.den) ∧ W.cell? ⟨bp, 0, none⟩ = some (.int .i64 p.re) ∧ W.cell? ⟨bp, 1, none⟩ = some (.int .i64 p.im) ∧ W.cell? ⟨bp, 2, none⟩ = some (.int .i64 p.den) ∧ W.cell? ⟨bq, 0, none⟩ = some (.int .i64 q.re) ∧ W.cell? ⟨bq, 1, none⟩ = some (.int .i64 q.im) ∧ W.cell? ⟨bq, 2, none⟩ = some (.int .i64 q.den) ∧ W.cell? ⟨w.heap.size + 1 + 1, 0, none⟩ = some (.bool false) :=
  ⟨h.A.ja.1, h.A.ja.2.1, h.A.ja.2.2.1, h.A.ja.2.2.2.1, h.A.ja.2.2.2.2.1, h.A.ja.2.2.2.2.2, h.A.jb.1, h.A.jb.2.1, h.A.jb.2.2.1, h.A.jb.2.2.2.1, h.A.jb.2.2.2.2.1, h.A.jb.2.2.2.2.2, h.p.1, h.p.2.1, h.p.2.2, h.q.1, h.q.2.1, h.q.2.2, h.A.s.cell⟩
theorem d_any (w : World) (a b : Jn) (p q : Fr) (bp bq : Nat) (v : Jn) (W : World) (h : AD w a b p q bp bq W) (hZ : GZ w) :
    Calls Tryd.prog 28 #[jnv v] W fun e w' => e = .returned (.bool (jdark v)) ∧ AD w a b p q bp bq w' :=
  (dark_any v W (hZ.below h.B)).mono fun _ _ ⟨h1, h2⟩ => ⟨h1, h.below h2⟩
end
set_option maxRecDepth 100000 in
set_option maxHeartbeats 4000000 in
theorem jalike_some (a b : Jn) (p q : Fr) (w : World) (ha : jvalid a = true) (hb : jvalid b = true) (hP : timesI a.x b.y = some p) (hQ : timesI a.y b.x = some q) (hZ : GZ w) :
    Calls Tryd.prog 19 #[jnv a, jnv b] w fun e w' => e = .returned (.bool ((p == q) && (jdark a == jdark b))) ∧ Below w.heap.size w w' := by
  have HP := Lib.hid hP
  have HQ := Lib.hid hQ
  have HA := Lib.hid ha
  have HB := Lib.hid hb
  clear hP hQ ha hb
  go_enter Tryd.func19, Tryd.ntmps19
  go_upto_region 2 with (first | (go_at_call 43; (with_reducible refine (jvalid_t a _ HA.out).mono ?_); rintro e w1 ⟨rfl, hb⟩; obtain ⟨hc, hf⟩ := bf hb (w.heap.size + 1 + 1 + 1) side_; have hs := hb.size; (try simp only [World.size_alloc, World.size_setCell, World.size_drew, World.heap_drewN] at hs); have hl : w.heap.size ≤ w1.heap.size ∧ w.heap.size < w1.heap.size ∧ w.heap.size + 1 < w1.heap.size ∧ w.heap.size + 1 + 1 < w1.heap.size := ⟨by omega, by omega, by omega, by omega⟩; have hB : Below w.heap.size w w1 := bstep (by exact below_) hb side_; have hs1 : SumIs w1 (w.heap.size + 1 + 1) _ := SumIs.below (by exact sum_) hb side_; have hcs1 := hs1.cell; have hfs1 := hs1.frozen; clear hs hb) | (go_at_call 43; (with_reducible refine (jvalid_t b _ HB.out).mono ?_); rintro e w1 ⟨rfl, hb⟩; obtain ⟨hc, hf⟩ := bf hb (w.heap.size + 1 + 1 + 1) side_; have hs := hb.size; (try simp only [World.size_alloc, World.size_setCell, World.size_drew, World.heap_drewN] at hs); have hl : w.heap.size ≤ w1.heap.size ∧ w.heap.size < w1.heap.size ∧ w.heap.size + 1 < w1.heap.size ∧ w.heap.size + 1 + 1 < w1.heap.size := ⟨by omega, by omega, by omega, by omega⟩; have hB : Below w.heap.size w w1 := bstep (by exact below_) hb side_; have hs1 : SumIs w1 (w.heap.size + 1 + 1) _ := SumIs.below (by exact sum_) hb side_; have hcs1 := hs1.cell; have hfs1 := hs1.frozen; clear hs hb) | (go_at_call 41; (with_reducible refine (x_need true (w.heap.size + 1 + 1) _ (by exact sum_)).mono ?_); rintro e w1 ⟨rfl, hu, hx⟩; have hs1 := hu _ (by exact sum_); clear hu; obtain ⟨hc, hf⟩ := bfxL hx side_; obtain ⟨hc3, hf3⟩ := bfxU hx (w.heap.size + 1 + 1 + 1) side_; have hs2 := hx.size; (try simp only [World.size_alloc, World.size_setCell, World.size_drew, World.heap_drewN] at hs2); have hl : w.heap.size ≤ w1.heap.size ∧ w.heap.size < w1.heap.size ∧ w.heap.size + 1 < w1.heap.size ∧ w.heap.size + 1 + 1 < w1.heap.size := ⟨by omega, by omega, by omega, by omega⟩; have hcs1 := hs1.cell; have hfs1 := hs1.frozen; have hB : Below w.heap.size w w1 := (BelX.step (BelX.of (by exact below_)) hx side_).below side_; clear hs2 hx))
  have hAC : AC w a b w1 := ⟨by refine ⟨?_, ?_, ?_, ?_, ?_, ?_⟩ <;> simp [go_sem, *], by refine ⟨?_, ?_, ?_, ?_, ?_, ?_⟩ <;> simp [go_sem, *], hs1, by exact below_⟩
  clear hB hs1 hc hf hcs1 hfs1 hl
  repeat (rename ∀ (_ _ : Nat), _ → _ => h; clear h)
  go_cut [6, 7] from 17 to 28 (fun s6 s7 wx => AR w a b p q s6 s7 wx)
  case first =>
    have hl := hAC.lt
    go_region_held3 (fun w' => w'.cell? ⟨w.heap.size, 0, none⟩ = some (.int .i64 a.x.re) ∧ w'.cell? ⟨w.heap.size, 1, none⟩ = some (.int .i64 a.x.im) ∧ w'.cell? ⟨w.heap.size, 2, none⟩ = some (.int .i64 a.x.den) ∧ w'.cell? ⟨w.heap.size, 3, none⟩ = some (.int .i64 a.y.re) ∧ w'.cell? ⟨w.heap.size, 4, none⟩ = some (.int .i64 a.y.im) ∧ w'.cell? ⟨w.heap.size, 5, none⟩ = some (.int .i64 a.y.den) ∧ w'.cell? ⟨w.heap.size + 1, 0, none⟩ = some (.int .i64 b.x.re) ∧ w'.cell? ⟨w.heap.size + 1, 1, none⟩ = some (.int .i64 b.x.im) ∧ w'.cell? ⟨w.heap.size + 1, 2, none⟩ = some (.int .i64 b.x.den) ∧ w'.cell? ⟨w.heap.size + 1, 3, none⟩ = some (.int .i64 b.y.re) ∧ w'.cell? ⟨w.heap.size + 1, 4, none⟩ = some (.int .i64 b.y.im) ∧ w'.cell? ⟨w.heap.size + 1, 5, none⟩ = some (.int .i64 b.y.den)) ((refine AC.cells ?_; (repeat' (first | (with_reducible assumption) | (with_reducible apply AC.alloc) | (with_reducible apply AC.drewN) | (with_reducible apply AC.drew) | ((with_reducible refine AC.set ?_ ?_ _) <;> (first | assumption | omega | (simp; omega) | skip)))))) (first | (go_at_call 46; (with_reducible refine (t_p w a b p _ (by (repeat' (first | (with_reducible assumption) | (with_reducible apply AC.alloc) | (with_reducible apply AC.drewN) | (with_reducible apply AC.drew) | ((with_reducible refine AC.set ?_ ?_ _) <;> (first | assumption | omega | (simp; omega) | skip))))) HP.out).mono ?_); rintro e wp ⟨rfl, hA, hx⟩; have hz := hx.size; (try simp only [World.size_alloc, World.size_setCell, World.size_drew, World.heap_drewN] at hz); have hl := hA.lt; (try (have hT : FrF wp (w1.heap.size) Z3 := (by refine FrF.belX (w := _) ?_ hx ?_ ?_; (repeat' (first | (with_reducible assumption) | ((refine FrF.new' ?_ ⟨0, 0, 0⟩ _) <;> (first | rfl | omega | (simp; done) | (simp; omega))) | (with_reducible apply FrF.alloc) | (with_reducible apply FrF.drewN) | (with_reducible apply FrF.drew) | omega | (simp; done) | (simp; omega))); first | done | fail); have hTf := hT.2; unfold FreeB at hTf; obtain ⟨z0, z1, z2⟩ := hT.1; have hTl : w1.heap.size < wp.heap.size := hT.1.lt)); (try (have hT : FrF wp (w1.heap.size + 1) Z3 := (by refine FrF.belX (w := _) ?_ hx ?_ ?_; (repeat' (first | (with_reducible assumption) | ((refine FrF.new' ?_ ⟨0, 0, 0⟩ _) <;> (first | rfl | omega | (simp; done) | (simp; omega))) | (with_reducible apply FrF.alloc) | (with_reducible apply FrF.drewN) | (with_reducible apply FrF.drew) | omega | (simp; done) | (simp; omega))); first | done | fail); have hTf := hT.2; unfold FreeB at hTf; obtain ⟨z0, z1, z2⟩ := hT.1; have hTl : w1.heap.size + 1 < wp.heap.size := hT.1.lt)); (try (have hT : FrF wp (wq.heap.size) Z3 := (by refine FrF.belX (w := _) ?_ hx ?_ ?_; (repeat' (first | (with_reducible assumption) | ((refine FrF.new' ?_ ⟨0, 0, 0⟩ _) <;> (first | rfl | omega | (simp; done) | (simp; omega))) | (with_reducible apply FrF.alloc) | (with_reducible apply FrF.drewN) | (with_reducible apply FrF.drew) | omega | (simp; done) | (simp; omega))); first | done | fail); have hTf := hT.2; unfold FreeB at hTf; obtain ⟨z0, z1, z2⟩ := hT.1; have hTl : wq.heap.size < wp.heap.size := hT.1.lt)); (try (have hT : FrF wp (wq.heap.size + 1) Z3 := (by refine FrF.belX (w := _) ?_ hx ?_ ?_; (repeat' (first | (with_reducible assumption) | ((refine FrF.new' ?_ ⟨0, 0, 0⟩ _) <;> (first | rfl | omega | (simp; done) | (simp; omega))) | (with_reducible apply FrF.alloc) | (with_reducible apply FrF.drewN) | (with_reducible apply FrF.drew) | omega | (simp; done) | (simp; omega))); first | done | fail); have hTf := hT.2; unfold FreeB at hTf; obtain ⟨z0, z1, z2⟩ := hT.1; have hTl : wq.heap.size + 1 < wp.heap.size := hT.1.lt)); clear hx) | (go_at_call 46; (with_reducible refine (t_q w a b q _ (by (repeat' (first | (with_reducible assumption) | (with_reducible apply AC.alloc) | (with_reducible apply AC.drewN) | (with_reducible apply AC.drew) | ((with_reducible refine AC.set ?_ ?_ _) <;> (first | assumption | omega | (simp; omega) | skip))))) HQ.out).mono ?_); rintro e wq ⟨rfl, hA, hx⟩; have hz := hx.size; (try simp only [World.size_alloc, World.size_setCell, World.size_drew, World.heap_drewN] at hz); have hl := hA.lt; (try (have hT : FrF wq (w1.heap.size) Z3 := (by refine FrF.belX (w := _) ?_ hx ?_ ?_; (repeat' (first | (with_reducible assumption) | ((refine FrF.new' ?_ ⟨0, 0, 0⟩ _) <;> (first | rfl | omega | (simp; done) | (simp; omega))) | (with_reducible apply FrF.alloc) | (with_reducible apply FrF.drewN) | (with_reducible apply FrF.drew) | omega | (simp; done) | (simp; omega))); first | done | fail); have hTf := hT.2; unfold FreeB at hTf; obtain ⟨z0, z1, z2⟩ := hT.1; have hTl : w1.heap.size < wq.heap.size := hT.1.lt)); (try (have hT : FrF wq (w1.heap.size + 1) Z3 := (by refine FrF.belX (w := _) ?_ hx ?_ ?_; (repeat' (first | (with_reducible assumption) | ((refine FrF.new' ?_ ⟨0, 0, 0⟩ _) <;> (first | rfl | omega | (simp; done) | (simp; omega))) | (with_reducible apply FrF.alloc) | (with_reducible apply FrF.drewN) | (with_reducible apply FrF.drew) | omega | (simp; done) | (simp; omega))); first | done | fail); have hTf := hT.2; unfold FreeB at hTf; obtain ⟨z0, z1, z2⟩ := hT.1; have hTl : w1.heap.size + 1 < wq.heap.size := hT.1.lt)); (try (have hT : FrF wq (wp.heap.size) Z3 := (by refine FrF.belX (w := _) ?_ hx ?_ ?_; (repeat' (first | (with_reducible assumption) | ((refine FrF.new' ?_ ⟨0, 0, 0⟩ _) <;> (first | rfl | omega | (simp; done) | (simp; omega))) | (with_reducible apply FrF.alloc) | (with_reducible apply FrF.drewN) | (with_reducible apply FrF.drew) | omega | (simp; done) | (simp; omega))); first | done | fail); have hTf := hT.2; unfold FreeB at hTf; obtain ⟨z0, z1, z2⟩ := hT.1; have hTl : wp.heap.size < wq.heap.size := hT.1.lt)); (try (have hT : FrF wq (wp.heap.size + 1) Z3 := (by refine FrF.belX (w := _) ?_ hx ?_ ?_; (repeat' (first | (with_reducible assumption) | ((refine FrF.new' ?_ ⟨0, 0, 0⟩ _) <;> (first | rfl | omega | (simp; done) | (simp; omega))) | (with_reducible apply FrF.alloc) | (with_reducible apply FrF.drewN) | (with_reducible apply FrF.drew) | omega | (simp; done) | (simp; omega))); first | done | fail); have hTf := hT.2; unfold FreeB at hTf; obtain ⟨z0, z1, z2⟩ := hT.1; have hTl : wp.heap.size + 1 < wq.heap.size := hT.1.lt)); clear hx))
    all_goals (go_wp2; go_meet; first | ((with_reducible refine AR.m1 (W := wq) ?_) <;> (first | (with_reducible assumption) | (with_reducible exact FrF.at (m := Z3) (by assumption)) | omega)) | ((with_reducible refine AR.m2 (W := wq) ?_) <;> (first | (with_reducible assumption) | (with_reducible exact FrF.at (m := Z3) (by assumption)) | omega)) | ((with_reducible refine AR.m3 (W := wq) (bp := w1.heap.size) (x := Z3) ?_ ?_ ?_) <;> (first | (with_reducible assumption) | (with_reducible exact FrF.at (m := Z3) (by assumption)) | omega)) | ((with_reducible refine AR.m3 (W := wq) (bp := wp.heap.size) (x := Z3) ?_ ?_ ?_) <;> (first | (with_reducible assumption) | (with_reducible exact FrF.at (m := Z3) (by assumption)) | omega)) | ((with_reducible refine AR.m3 (W := wq) (bp := wq.heap.size) (x := Z3) ?_ ?_ ?_) <;> (first | (with_reducible assumption) | (with_reducible exact FrF.at (m := Z3) (by assumption)) | omega)) | ((with_reducible refine AR.m4 (W := wq) (bq := w1.heap.size) (x := Z3) ?_ ?_ ?_) <;> (first | (with_reducible assumption) | (with_reducible exact FrF.at (m := Z3) (by assumption)) | omega)) | ((with_reducible refine AR.m4 (W := wq) (bq := wp.heap.size) (x := Z3) ?_ ?_ ?_) <;> (first | (with_reducible assumption) | (with_reducible exact FrF.at (m := Z3) (by assumption)) | omega)) | ((with_reducible refine AR.m4 (W := wq) (bq := wq.heap.size) (x := Z3) ?_ ?_ ?_) <;> (first | (with_reducible assumption) | (with_reducible exact FrF.at (m := Z3) (by assumption)) | omega)) | ((with_reducible refine AR.m5 (W := wq) (bp := w1.heap.size) (bq := w1.heap.size + 1) (x := Z3) (y := Z3) ?_ ?_ ?_ ?_ ?_ ?_) <;> (first | (with_reducible assumption) | (with_reducible exact FrF.at (m := Z3) (by assumption)) | omega)) | ((with_reducible refine AR.m5 (W := wq) (bp := w1.heap.size + 1) (bq := w1.heap.size) (x := Z3) (y := Z3) ?_ ?_ ?_ ?_ ?_ ?_) <;> (first | (with_reducible assumption) | (with_reducible exact FrF.at (m := Z3) (by assumption)) | omega)) | ((with_reducible refine AR.m5 (W := wq) (bp := w1.heap.size) (bq := wp.heap.size) (x := Z3) (y := Z3) ?_ ?_ ?_ ?_ ?_ ?_) <;> (first | (with_reducible assumption) | (with_reducible exact FrF.at (m := Z3) (by assumption)) | omega)) | ((with_reducible refine AR.m5 (W := wq) (bp := wp.heap.size) (bq := w1.heap.size) (x := Z3) (y := Z3) ?_ ?_ ?_ ?_ ?_ ?_) <;> (first | (with_reducible assumption) | (with_reducible exact FrF.at (m := Z3) (by assumption)) | omega)) | ((with_reducible refine AR.m5 (W := wq) (bp := w1.heap.size) (bq := wq.heap.size) (x := Z3) (y := Z3) ?_ ?_ ?_ ?_ ?_ ?_) <;> (first | (with_reducible assumption) | (with_reducible exact FrF.at (m := Z3) (by assumption)) | omega)) | ((with_reducible refine AR.m5 (W := wq) (bp := wq.heap.size) (bq := w1.heap.size) (x := Z3) (y := Z3) ?_ ?_ ?_ ?_ ?_ ?_) <;> (first | (with_reducible assumption) | (with_reducible exact FrF.at (m := Z3) (by assumption)) | omega)) | ((with_reducible refine AR.m5 (W := wq) (bp := wp.heap.size) (bq := wp.heap.size + 1) (x := Z3) (y := Z3) ?_ ?_ ?_ ?_ ?_ ?_) <;> (first | (with_reducible assumption) | (with_reducible exact FrF.at (m := Z3) (by assumption)) | omega)) | ((with_reducible refine AR.m5 (W := wq) (bp := wp.heap.size + 1) (bq := wp.heap.size) (x := Z3) (y := Z3) ?_ ?_ ?_ ?_ ?_ ?_) <;> (first | (with_reducible assumption) | (with_reducible exact FrF.at (m := Z3) (by assumption)) | omega)) | ((with_reducible refine AR.m5 (W := wq) (bp := wq.heap.size) (bq := wq.heap.size + 1) (x := Z3) (y := Z3) ?_ ?_ ?_ ?_ ?_ ?_) <;> (first | (with_reducible assumption) | (with_reducible exact FrF.at (m := Z3) (by assumption)) | omega)) | ((with_reducible refine AR.m5 (W := wq) (bp := wq.heap.size + 1) (bq := wq.heap.size) (x := Z3) (y := Z3) ?_ ?_ ?_ ?_ ?_ ?_) <;> (first | (with_reducible assumption) | (with_reducible exact FrF.at (m := Z3) (by assumption)) | omega)) | ((with_reducible refine AR.m1 (W := wp) ?_) <;> (first | (with_reducible assumption) | (with_reducible exact FrF.at (m := Z3) (by assumption)) | omega)) | ((with_reducible refine AR.m2 (W := wp) ?_) <;> (first | (with_reducible assumption) | (with_reducible exact FrF.at (m := Z3) (by assumption)) | omega)) | ((with_reducible refine AR.m3 (W := wp) (bp := w1.heap.size) (x := Z3) ?_ ?_ ?_) <;> (first | (with_reducible assumption) | (with_reducible exact FrF.at (m := Z3) (by assumption)) | omega)) | ((with_reducible refine AR.m3 (W := wp) (bp := wp.heap.size) (x := Z3) ?_ ?_ ?_) <;> (first | (with_reducible assumption) | (with_reducible exact FrF.at (m := Z3) (by assumption)) | omega)) | ((with_reducible refine AR.m3 (W := wp) (bp := wq.heap.size) (x := Z3) ?_ ?_ ?_) <;> (first | (with_reducible assumption) | (with_reducible exact FrF.at (m := Z3) (by assumption)) | omega)) | ((with_reducible refine AR.m4 (W := wp) (bq := w1.heap.size) (x := Z3) ?_ ?_ ?_) <;> (first | (with_reducible assumption) | (with_reducible exact FrF.at (m := Z3) (by assumption)) | omega)) | ((with_reducible refine AR.m4 (W := wp) (bq := wp.heap.size) (x := Z3) ?_ ?_ ?_) <;> (first | (with_reducible assumption) | (with_reducible exact FrF.at (m := Z3) (by assumption)) | omega)) | ((with_reducible refine AR.m4 (W := wp) (bq := wq.heap.size) (x := Z3) ?_ ?_ ?_) <;> (first | (with_reducible assumption) | (with_reducible exact FrF.at (m := Z3) (by assumption)) | omega)) | ((with_reducible refine AR.m5 (W := wp) (bp := w1.heap.size) (bq := w1.heap.size + 1) (x := Z3) (y := Z3) ?_ ?_ ?_ ?_ ?_ ?_) <;> (first | (with_reducible assumption) | (with_reducible exact FrF.at (m := Z3) (by assumption)) | omega)) | ((with_reducible refine AR.m5 (W := wp) (bp := w1.heap.size + 1) (bq := w1.heap.size) (x := Z3) (y := Z3) ?_ ?_ ?_ ?_ ?_ ?_) <;> (first | (with_reducible assumption) | (with_reducible exact FrF.at (m := Z3) (by assumption)) | omega)) | ((with_reducible refine AR.m5 (W := wp) (bp := w1.heap.size) (bq := wp.heap.size) (x := Z3) (y := Z3) ?_ ?_ ?_ ?_ ?_ ?_) <;> (first | (with_reducible assumption) | (with_reducible exact FrF.at (m := Z3) (by assumption)) | omega)) | ((with_reducible refine AR.m5 (W := wp) (bp := wp.heap.size) (bq := w1.heap.size) (x := Z3) (y := Z3) ?_ ?_ ?_ ?_ ?_ ?_) <;> (first | (with_reducible assumption) | (with_reducible exact FrF.at (m := Z3) (by assumption)) | omega)) | ((with_reducible refine AR.m5 (W := wp) (bp := w1.heap.size) (bq := wq.heap.size) (x := Z3) (y := Z3) ?_ ?_ ?_ ?_ ?_ ?_) <;> (first | (with_reducible assumption) | (with_reducible exact FrF.at (m := Z3) (by assumption)) | omega)) | ((with_reducible refine AR.m5 (W := wp) (bp := wq.heap.size) (bq := w1.heap.size) (x := Z3) (y := Z3) ?_ ?_ ?_ ?_ ?_ ?_) <;> (first | (with_reducible assumption) | (with_reducible exact FrF.at (m := Z3) (by assumption)) | omega)) | ((with_reducible refine AR.m5 (W := wp) (bp := wp.heap.size) (bq := wp.heap.size + 1) (x := Z3) (y := Z3) ?_ ?_ ?_ ?_ ?_ ?_) <;> (first | (with_reducible assumption) | (with_reducible exact FrF.at (m := Z3) (by assumption)) | omega)) | ((with_reducible refine AR.m5 (W := wp) (bp := wp.heap.size + 1) (bq := wp.heap.size) (x := Z3) (y := Z3) ?_ ?_ ?_ ?_ ?_ ?_) <;> (first | (with_reducible assumption) | (with_reducible exact FrF.at (m := Z3) (by assumption)) | omega)) | ((with_reducible refine AR.m5 (W := wp) (bp := wq.heap.size) (bq := wq.heap.size + 1) (x := Z3) (y := Z3) ?_ ?_ ?_ ?_ ?_ ?_) <;> (first | (with_reducible assumption) | (with_reducible exact FrF.at (m := Z3) (by assumption)) | omega)) | ((with_reducible refine AR.m5 (W := wp) (bp := wq.heap.size + 1) (bq := wq.heap.size) (x := Z3) (y := Z3) ?_ ?_ ?_ ?_ ?_ ?_) <;> (first | (with_reducible assumption) | (with_reducible exact FrF.at (m := Z3) (by assumption)) | omega)))
  case rest =>
    obtain ⟨bp, bq, ⟨rfl, rfl⟩, ⟨hp, hq⟩, hA⟩ := hcut
    have hD : AD w a b p q bp bq wc := ⟨hA, hp, hq⟩
    clear hA hp hq
    cases h1 : (p.re == q.re)
    · have hv : ((p == q) && (jdark a == jdark b)) = false := by rw [← fr_eq, h1]; simp
      have hD2  := hD.B
      obtain ⟨d0, d1, d2, d3, d4, d5, d6, d7, d8, d9, d10, d11, d12, d13, d14, d15, d16, d17, d18⟩ := hD.cells
      clear hD
      go_upto_region 3 with fail
      go_region_with (fail)
      all_goals (go_wp2; go_ret; exact ⟨by (try simp only [hv]); (first | done | rfl), by exact below_⟩)
    cases h2 : (p.im == q.im)
    · have hv : ((p == q) && (jdark a == jdark b)) = false := by rw [← fr_eq, h2]; simp
      have hD2  := hD.B
      obtain ⟨d0, d1, d2, d3, d4, d5, d6, d7, d8, d9, d10, d11, d12, d13, d14, d15, d16, d17, d18⟩ := hD.cells
      clear hD
      go_upto_region 3 with fail
      go_region_with (fail)
      all_goals (go_wp2; go_ret; exact ⟨by (try simp only [hv]); (first | done | rfl), by exact below_⟩)
    cases h3 : (p.den == q.den)
    · have hv : ((p == q) && (jdark a == jdark b)) = false := by rw [← fr_eq, h3]; simp
      have hD2  := hD.B
      obtain ⟨d0, d1, d2, d3, d4, d5, d6, d7, d8, d9, d10, d11, d12, d13, d14, d15, d16, d17, d18⟩ := hD.cells
      clear hD
      go_upto_region 3 with fail
      go_region_with (fail)
      all_goals (go_wp2; go_ret; exact ⟨by (try simp only [hv]); (first | done | rfl), by exact below_⟩)
    · have hv : ((p == q) && (jdark a == jdark b)) = (jdark a == jdark b) := by rw [← fr_eq, h1, h2, h3]; simp
      have hD2 := hD.B
      go_upto_region 3 with fail
      go_region_held3 (fun w' => w'.cell? ⟨w.heap.size, 0, none⟩ = some (.int .i64 a.x.re) ∧ w'.cell? ⟨w.heap.size, 1, none⟩ = some (.int .i64 a.x.im) ∧ w'.cell? ⟨w.heap.size, 2, none⟩ = some (.int .i64 a.x.den) ∧ w'.cell? ⟨w.heap.size, 3, none⟩ = some (.int .i64 a.y.re) ∧ w'.cell? ⟨w.heap.size, 4, none⟩ = some (.int .i64 a.y.im) ∧ w'.cell? ⟨w.heap.size, 5, none⟩ = some (.int .i64 a.y.den) ∧ w'.cell? ⟨w.heap.size + 1, 0, none⟩ = some (.int .i64 b.x.re) ∧ w'.cell? ⟨w.heap.size + 1, 1, none⟩ = some (.int .i64 b.x.im) ∧ w'.cell? ⟨w.heap.size + 1, 2, none⟩ = some (.int .i64 b.x.den) ∧ w'.cell? ⟨w.heap.size + 1, 3, none⟩ = some (.int .i64 b.y.re) ∧ w'.cell? ⟨w.heap.size + 1, 4, none⟩ = some (.int .i64 b.y.im) ∧ w'.cell? ⟨w.heap.size + 1, 5, none⟩ = some (.int .i64 b.y.den) ∧ w'.cell? ⟨bp, 0, none⟩ = some (.int .i64 p.re) ∧ w'.cell? ⟨bp, 1, none⟩ = some (.int .i64 p.im) ∧ w'.cell? ⟨bp, 2, none⟩ = some (.int .i64 p.den) ∧ w'.cell? ⟨bq, 0, none⟩ = some (.int .i64 q.re) ∧ w'.cell? ⟨bq, 1, none⟩ = some (.int .i64 q.im) ∧ w'.cell? ⟨bq, 2, none⟩ = some (.int .i64 q.den) ∧ w'.cell? ⟨w.heap.size + 1 + 1, 0, none⟩ = some (.bool false)) ((refine AD.cells ?_; (repeat' (first | (with_reducible assumption) | (with_reducible apply AD.alloc) | (with_reducible apply AD.drewN) | (with_reducible apply AD.drew))))) (first | (go_at_call 28; (with_reducible refine (d_any w a b p q bp bq a _ (by (repeat' (first | (with_reducible assumption) | (with_reducible apply AD.alloc) | (with_reducible apply AD.drewN) | (with_reducible apply AD.drew)))) hZ).mono ?_); rintro e wd ⟨rfl, hD⟩; have hB := hD.B) | (go_at_call 28; (with_reducible refine (d_any w a b p q bp bq b _ (by (repeat' (first | (with_reducible assumption) | (with_reducible apply AD.alloc) | (with_reducible apply AD.drewN) | (with_reducible apply AD.drew)))) hZ).mono ?_); rintro e wd ⟨rfl, hD⟩; have hB := hD.B))
      all_goals (go_wp2; go_ret; exact ⟨by (try simp only [hv]); (first | done | rfl), by exact below_⟩)
end Go.Proofs.YtiagnnmnaakmoaaDoor
