/-
  The walks of MatAlike for a valid matrix and one.
-/
import Derived.Test.YtiagnnmnaakmoaaDoorOb
import Derived.Test.YtiagnnmnaakmoaaDoorNa
namespace Go.Proofs.YtiagnnmnaakmoaaDoor
set_option linter.unusedSimpArgs false
set_option linter.unusedVariables false
open Go.RowKit
attribute [local go_sem ↓] Go.wp_at_zero Go.wp_at_succ
theorem matAlike_v (p : Mt) (w : World) (hv : mvalid p = true) (hZ : GZ w) :
    Calls Tryd.prog 35 #[mtv p, mtv (⟨⟨1, 0, 1⟩, ⟨0, 0, 1⟩, ⟨0, 0, 1⟩, ⟨1, 0, 1⟩⟩ : Mt)] w fun e w' => e = .returned (.bool (oneLike p)) ∧ Below w.heap.size w w' := by
  rw [oneLike_eq hv]
  cases hc : crossB p (⟨⟨1, 0, 1⟩, ⟨0, 0, 1⟩, ⟨0, 0, 1⟩, ⟨1, 0, 1⟩⟩ : Mt)
  · exact matAlike_f p w hv hZ hc
  · have h := hc
    rw [cross_one hv] at h
    simp only [Bool.and_eq_true, beq_iff_eq] at h
    obtain ⟨⟨h1, h2⟩, h3⟩ := h
    obtain ⟨a, b, c, d⟩ := p
    simp only at h1 h2 h3
    subst h1 h2 h3
    by_cases ha : a = ⟨0, 0, 1⟩
    · subst ha
      exact matAlike_z w hv hZ hc
    · rw [show (true && !(a == ⟨0, 0, 1⟩)) = true by simpa using ha]
      exact matAlike_n a w hv hZ hc ha
/-- The rounds of the reference: the lower half. -/
def Rows3 (m n : Mt) (i : Nat) : Prop := ∀ i' k' : Nat, i' < i → k' < i' → tmv m n i' k' = tmv m n k' i'
def Row3 (m n : Mt) (i k : Nat) : Prop := ∀ k' : Nat, k' < k → tmv m n i k' = tmv m n k' i
theorem rows3_t {m n : Mt} (h : Rows3 m n 4) : crossB m n = true := crossB_t fun i k hi hk hne => by
  rcases Nat.lt_or_gt_of_ne hne with h1 | h1
  · exact (h k i hk h1).symm
  · exact h i k hi h1
theorem Rows3.next {m n : Mt} {i : Nat} (h : Rows3 m n i) (e : Row3 m n i i) : Rows3 m n (i + 1) := fun i' k' hi' hk' => by
  rcases Nat.lt_succ_iff_lt_or_eq.1 hi' with h1 | rfl
  · exact h i' k' h1 hk'
  · exact e k' hk'
theorem Row3.next {m n : Mt} {i k : Nat} (h : Row3 m n i k) (e : tmv m n i k = tmv m n k i) : Row3 m n i (k + 1) := fun k' hk' => by
  rcases Nat.lt_succ_iff_lt_or_eq.1 hk' with h1 | rfl
  · exact h k' h1
  · exact e
/-- The reference's darkness of a matrix. -/
def darkB (m : Mt) : Bool := (List.range 4).all fun i => (mf m i).re == 0 && (mf m i).im == 0
def DarkTo (m : Mt) (i : Nat) : Prop := ∀ k : Nat, k < i → (mf m k).re = 0 ∧ (mf m k).im = 0
theorem darkB_t {m : Mt} (h : DarkTo m 4) : darkB m = true := by
  simp only [darkB, List.all_eq_true, List.mem_range, Bool.and_eq_true, beq_iff_eq]
  exact fun i hi => h i hi
theorem darkB_f {m : Mt} {i : Nat} (hi : i < 4) (h : ¬ ((mf m i).re = 0 ∧ (mf m i).im = 0)) : darkB m = false := by
  rw [Bool.eq_false_iff]
  intro hc
  simp only [darkB, List.all_eq_true, List.mem_range, Bool.and_eq_true, beq_iff_eq] at hc
  exact h (hc i hi)
set_option maxRecDepth 100000 in
set_option maxHeartbeats 2000000 in
theorem l5dark_any (m : Mt) (w : World) :
    Calls Tryd.prog 59 #[mtv m] w fun e w' => e = .returned (.bool (darkB m)) ∧ Below w.heap.size w w' := by
  have hA0 := MtAt.new w m 44
  have hB0 : Below w.heap.size w (w.alloc (.cells #[.int .i64 m.a.re, .int .i64 m.a.im, .int .i64 m.a.den, .int .i64 m.b.re, .int .i64 m.b.im, .int .i64 m.b.den, .int .i64 m.c.re, .int .i64 m.c.im, .int .i64 m.c.den, .int .i64 m.d.re, .int .i64 m.d.im, .int .i64 m.d.den] 44)) := (Below.refl _ _).alloc (Nat.le_refl _) _
  go_enter Tryd.func59, Tryd.ntmps59
  go_wp2
  go_loopw [3] (fun i wr => ∃ k : Nat, k ≤ 4 ∧ i = .int .i64 k ∧ Hid (DarkTo m k) ∧ MtAt wr w.heap.size m ∧ Below w.heap.size w wr) (fun i _ => 4 - (intOf i).toNat)
  case atStart => exact ⟨0, by omega, rfl, Lib.hid (fun _ h => absurd h (Nat.not_lt_zero _)), hA0, hB0⟩
  case round =>
    clear hA0 hB0
    obtain ⟨i, hi, rfl, hrw, hA, hB⟩ := hrel
    rcases Nat.lt_or_ge i 4 with hi4 | hi4
    · have hi0 : (i : Int) < 4 := by omega
      have hi00 : (0 : Int) ≤ (i : Int) := by omega
      obtain ⟨c0, c1, c2⟩ := hA.part hi4
      cases h1 : decide ((mf m i).re = 0)
      · have hf : darkB m = false := darkB_f hi4 (fun h => by simp [h.1] at h1)
        have h1' : ((mf m i).re == 0) = false := by simpa using h1
        go_wp2
        go_ret
        exact ⟨by rw [hf]; rfl, by exact below_⟩
      have e1 : (mf m i).re = 0 := by simpa using h1
      cases h2 : decide ((mf m i).im = 0)
      · have hf : darkB m = false := darkB_f hi4 (fun h => by simp [h.2] at h2)
        have h2' : ((mf m i).im == 0) = false := by simpa using h2
        have h1' : ((mf m i).re == 0) = true := by simpa using h1
        go_wp2
        go_ret
        exact ⟨by rw [hf]; rfl, by exact below_⟩
      have e2 : (mf m i).im = 0 := by simpa using h2
      have h1' : ((mf m i).re == 0) = true := by simpa using h1
      have h2' : ((mf m i).im == 0) = true := by simpa using h2
      go_wp2
      go_roundw
      case rel => exact ⟨i + 1, by omega, by go_num, Lib.hid (fun k hk => by
        rcases Nat.lt_succ_iff_lt_or_eq.1 hk with h | rfl
        · exact hrw.out k h
        · exact ⟨e1, e2⟩), hA, by exact below_⟩
      case measure => simp [intOf]; omega
    · obtain rfl : i = 4 := by omega
      go_wp2
      go_ret
      exact ⟨by rw [darkB_t hrw.out]; rfl, by exact below_⟩
theorem FrAt.drew {w : World} {b : Nat} {m : Fr} (h : FrAt w b m) : FrAt w.drew b m := h
theorem FrAt.drewN {w : World} {b : Nat} {m : Fr} (h : FrAt w b m) (n : Nat) : FrAt (w.drewN n) b m := h
theorem FrF.below {w w' : World} {b B : Nat} {m : Fr} (h : FrF w b m) (hb : Below B w w') (hlt : b < B) : FrF w' b m := ⟨h.1.below hb hlt, h.2.below hb hlt⟩
/-- Both matrices. -/
structure SM (w : World) (p : Mt) (W : World) : Prop where
  a : MtAt W w.heap.size p
  b : MtAt W (w.heap.size + 1) (⟨⟨1, 0, 1⟩, ⟨0, 0, 1⟩, ⟨0, 0, 1⟩, ⟨1, 0, 1⟩⟩ : Mt)
  B : Below w.heap.size w W
section
variable {w W w1 : World} {p : Mt}
theorem SM.lt (h : SM w p W) : w.heap.size + 1 < W.heap.size := h.b.lt
theorem SM.alloc (h : SM w p W) (o : Obj) : SM w p (W.alloc o) := ⟨h.a.alloc o, h.b.alloc o, h.B.alloc h.B.size o⟩
theorem SM.drew (h : SM w p W) : SM w p W.drew := ⟨h.a.drew, h.b.drew, h.B.drew⟩
theorem SM.drewN (h : SM w p W) (k : Nat) : SM w p (W.drewN k) := ⟨h.a.drewN k, h.b.drewN k, below_drewN h.B k⟩
theorem SM.set (h : SM w p W) {q : Addr} (hp : w.heap.size + 1 < q.block) (u : Value) : SM w p (W.setCell q u) := ⟨h.a.far (by omega) u, h.b.far (by omega) u, h.B.setCell (by omega) u⟩
theorem SM.below (h : SM w p W) (hb : Below W.heap.size W w1) : SM w p w1 := ⟨h.a.below hb h.a.lt, h.b.below hb h.b.lt, bstep h.B hb h.B.size⟩
theorem SM.cells (h : SM w p W) : W.cell? ⟨w.heap.size, 0, none⟩ = some (.int .i64 p.a.re) ∧ W.cell? ⟨w.heap.size, 1, none⟩ = some (.int .i64 p.a.im) ∧ W.cell? ⟨w.heap.size, 2, none⟩ = some (.int .i64 p.a.den) ∧ W.cell? ⟨w.heap.size, 3, none⟩ = some (.int .i64 p.b.re) ∧ W.cell? ⟨w.heap.size, 4, none⟩ = some (.int .i64 p.b.im) ∧ W.cell? ⟨w.heap.size, 5, none⟩ = some (.int .i64 p.b.den) ∧ W.cell? ⟨w.heap.size, 6, none⟩ = some (.int .i64 p.c.re) ∧ W.cell? ⟨w.heap.size, 7, none⟩ = some (.int .i64 p.c.im) ∧ W.cell? ⟨w.heap.size, 8, none⟩ = some (.int .i64 p.c.den) ∧ W.cell? ⟨w.heap.size, 9, none⟩ = some (.int .i64 p.d.re) ∧ W.cell? ⟨w.heap.size, 10, none⟩ = some (.int .i64 p.d.im) ∧ W.cell? ⟨w.heap.size, 11, none⟩ = some (.int .i64 p.d.den) ∧ W.cell? ⟨w.heap.size + 1, 0, none⟩ = some (.int .i64 1) ∧ W.cell? ⟨w.heap.size + 1, 1, none⟩ = some (.int .i64 0) ∧ W.cell? ⟨w.heap.size + 1, 2, none⟩ = some (.int .i64 1) ∧ W.cell? ⟨w.heap.size + 1, 3, none⟩ = some (.int .i64 0) ∧ W.cell? ⟨w.heap.size + 1, 4, none⟩ = some (.int .i64 0) ∧ W.cell? ⟨w.heap.size + 1, 5, none⟩ = some (.int .i64 1) ∧ W.cell? ⟨w.heap.size + 1, 6, none⟩ = some (.int .i64 0) ∧ W.cell? ⟨w.heap.size + 1, 7, none⟩ = some (.int .i64 0) ∧ W.cell? ⟨w.heap.size + 1, 8, none⟩ = some (.int .i64 1) ∧ W.cell? ⟨w.heap.size + 1, 9, none⟩ = some (.int .i64 1) ∧ W.cell? ⟨w.heap.size + 1, 10, none⟩ = some (.int .i64 0) ∧ W.cell? ⟨w.heap.size + 1, 11, none⟩ = some (.int .i64 1) := mt12 h.a h.b
theorem SM.two {i k : Nat} (h : SM w p W) (hi : i < 4) (hk : k < 4) : W.cell? ⟨w.heap.size, i * 3, none⟩ = some (.int .i64 (mf p i).re) ∧ W.cell? ⟨w.heap.size, i * 3 + 1, none⟩ = some (.int .i64 (mf p i).im) ∧ W.cell? ⟨w.heap.size, i * 3 + 2, none⟩ = some (.int .i64 (mf p i).den) ∧ W.cell? ⟨w.heap.size + 1, k * 3, none⟩ = some (.int .i64 (mf (⟨⟨1, 0, 1⟩, ⟨0, 0, 1⟩, ⟨0, 0, 1⟩, ⟨1, 0, 1⟩⟩ : Mt) k).re) ∧ W.cell? ⟨w.heap.size + 1, k * 3 + 1, none⟩ = some (.int .i64 (mf (⟨⟨1, 0, 1⟩, ⟨0, 0, 1⟩, ⟨0, 0, 1⟩, ⟨1, 0, 1⟩⟩ : Mt) k).im) ∧ W.cell? ⟨w.heap.size + 1, k * 3 + 2, none⟩ = some (.int .i64 (mf (⟨⟨1, 0, 1⟩, ⟨0, 0, 1⟩, ⟨0, 0, 1⟩, ⟨1, 0, 1⟩⟩ : Mt) k).den) := ⟨(h.a.part hi).1, (h.a.part hi).2.1, (h.a.part hi).2.2, h.b.part hk⟩
theorem sm_valid (w : World) (p m : Mt) (hv : Hid (mvalid m = true)) (W : World) (h : SM w p W) :
    Calls Tryd.prog 58 #[mtv m] W fun e w' => e = .returned (.bool true) ∧ SM w p w' :=
  (smvalid_t m W hv.out).mono fun _ _ ⟨h1, h2⟩ => ⟨h1, h.below h2⟩
theorem sm_dark (w : World) (p m : Mt) (b : Bool) (hv : Hid (darkB m = b)) (W : World) (h : SM w p W) :
    Calls Tryd.prog 59 #[mtv m] W fun e w' => e = .returned (.bool b) ∧ SM w p w' :=
  (l5dark_any m W).mono fun _ _ ⟨h1, h2⟩ => ⟨by rw [← hv.out]; exact h1, h.below h2⟩
theorem sm_times (w : World) (p : Mt) (htd : Told p (⟨⟨1, 0, 1⟩, ⟨0, 0, 1⟩, ⟨0, 0, 1⟩, ⟨1, 0, 1⟩⟩ : Mt)) (i k : Nat) (hi : i < 4) (hk : k < 4) (W : World) (h : SM w p W) :
    Calls Tryd.prog 54 #[frv (mf p i), frv (mf (⟨⟨1, 0, 1⟩, ⟨0, 0, 1⟩, ⟨0, 0, 1⟩, ⟨1, 0, 1⟩⟩ : Mt) k)] W fun e w' => e = .returned (.tuple #[frv (tmv p (⟨⟨1, 0, 1⟩, ⟨0, 0, 1⟩, ⟨0, 0, 1⟩, ⟨1, 0, 1⟩⟩ : Mt) i k), .bool true]) ∧ SM w p w' ∧ Below W.heap.size W w' :=
  (stimes_any (mf p i) (mf (⟨⟨1, 0, 1⟩, ⟨0, 0, 1⟩, ⟨0, 0, 1⟩, ⟨1, 0, 1⟩⟩ : Mt) k) W).mono fun _ _ ⟨h1, h2⟩ => ⟨by rw [h1]; show Ending.returned (Value.tuple #[_, Value.bool (timesI _ _).isSome]) = _; rw [htd i k hi hk]; rfl, h.below h2, h2⟩
end
set_option maxRecDepth 100000 in
set_option maxHeartbeats 4000000 in
theorem smatAlike_d (p : Mt) (w : World) (hv : mvalid p = true) (hd : darkB p = true) :
    Calls Tryd.prog 33 #[mtv p, mtv (⟨⟨1, 0, 1⟩, ⟨0, 0, 1⟩, ⟨0, 0, 1⟩, ⟨1, 0, 1⟩⟩ : Mt)] w fun e w' => e = .returned (.bool false) ∧ Below w.heap.size w w' := by
  have HV := Lib.hid hv
  have HV1 := Lib.hid (show mvalid (⟨⟨1, 0, 1⟩, ⟨0, 0, 1⟩, ⟨0, 0, 1⟩, ⟨1, 0, 1⟩⟩ : Mt) = true by decide)
  have HD := Lib.hid hd
  have HD1 := Lib.hid (show darkB (⟨⟨1, 0, 1⟩, ⟨0, 0, 1⟩, ⟨0, 0, 1⟩, ⟨1, 0, 1⟩⟩ : Mt) = false by decide)
  clear hv hd
  have hM : SM w p ((w.alloc (.cells #[.int .i64 p.a.re, .int .i64 p.a.im, .int .i64 p.a.den, .int .i64 p.b.re, .int .i64 p.b.im, .int .i64 p.b.den, .int .i64 p.c.re, .int .i64 p.c.im, .int .i64 p.c.den, .int .i64 p.d.re, .int .i64 p.d.im, .int .i64 p.d.den] 44)).alloc (.cells #[.int .i64 1, .int .i64 0, .int .i64 1, .int .i64 0, .int .i64 0, .int .i64 1, .int .i64 0, .int .i64 0, .int .i64 1, .int .i64 1, .int .i64 0, .int .i64 1] 44)) :=
    ⟨(MtAt.new w p _).alloc _, MtAt.new' (by simp) (⟨⟨1, 0, 1⟩, ⟨0, 0, 1⟩, ⟨0, 0, 1⟩, ⟨1, 0, 1⟩⟩ : Mt) _, ((Below.refl _ _).alloc (Nat.le_refl _) _).alloc (by simp) _⟩
  go_enter Tryd.func33, Tryd.ntmps33
  go_upto_region 1 with fail
  go_region_held3 (fun w' => w'.cell? ⟨w.heap.size, 0, none⟩ = some (.int .i64 p.a.re) ∧ w'.cell? ⟨w.heap.size, 1, none⟩ = some (.int .i64 p.a.im) ∧ w'.cell? ⟨w.heap.size, 2, none⟩ = some (.int .i64 p.a.den) ∧ w'.cell? ⟨w.heap.size, 3, none⟩ = some (.int .i64 p.b.re) ∧ w'.cell? ⟨w.heap.size, 4, none⟩ = some (.int .i64 p.b.im) ∧ w'.cell? ⟨w.heap.size, 5, none⟩ = some (.int .i64 p.b.den) ∧ w'.cell? ⟨w.heap.size, 6, none⟩ = some (.int .i64 p.c.re) ∧ w'.cell? ⟨w.heap.size, 7, none⟩ = some (.int .i64 p.c.im) ∧ w'.cell? ⟨w.heap.size, 8, none⟩ = some (.int .i64 p.c.den) ∧ w'.cell? ⟨w.heap.size, 9, none⟩ = some (.int .i64 p.d.re) ∧ w'.cell? ⟨w.heap.size, 10, none⟩ = some (.int .i64 p.d.im) ∧ w'.cell? ⟨w.heap.size, 11, none⟩ = some (.int .i64 p.d.den) ∧ w'.cell? ⟨w.heap.size + 1, 0, none⟩ = some (.int .i64 1) ∧ w'.cell? ⟨w.heap.size + 1, 1, none⟩ = some (.int .i64 0) ∧ w'.cell? ⟨w.heap.size + 1, 2, none⟩ = some (.int .i64 1) ∧ w'.cell? ⟨w.heap.size + 1, 3, none⟩ = some (.int .i64 0) ∧ w'.cell? ⟨w.heap.size + 1, 4, none⟩ = some (.int .i64 0) ∧ w'.cell? ⟨w.heap.size + 1, 5, none⟩ = some (.int .i64 1) ∧ w'.cell? ⟨w.heap.size + 1, 6, none⟩ = some (.int .i64 0) ∧ w'.cell? ⟨w.heap.size + 1, 7, none⟩ = some (.int .i64 0) ∧ w'.cell? ⟨w.heap.size + 1, 8, none⟩ = some (.int .i64 1) ∧ w'.cell? ⟨w.heap.size + 1, 9, none⟩ = some (.int .i64 1) ∧ w'.cell? ⟨w.heap.size + 1, 10, none⟩ = some (.int .i64 0) ∧ w'.cell? ⟨w.heap.size + 1, 11, none⟩ = some (.int .i64 1)) ((refine SM.cells (w := w) ?_; (repeat' (first | (with_reducible assumption) | (with_reducible apply SM.alloc) | (with_reducible apply SM.drewN) | (with_reducible apply SM.drew) | ((with_reducible refine SM.set ?_ ?_ _) <;> (first | omega | (simp; done) | (simp; omega) | skip)))))) (first | (go_at_call 58; (with_reducible refine (sm_valid w p p HV _ (by (repeat' (first | (with_reducible assumption) | (with_reducible apply SM.alloc) | (with_reducible apply SM.drewN) | (with_reducible apply SM.drew) | ((with_reducible refine SM.set ?_ ?_ _) <;> (first | omega | (simp; done) | (simp; omega) | skip)))))).mono ?_); rintro e wd ⟨rfl, hD⟩; have hB := hD.B) | (go_at_call 58; (with_reducible refine (sm_valid w p (⟨⟨1, 0, 1⟩, ⟨0, 0, 1⟩, ⟨0, 0, 1⟩, ⟨1, 0, 1⟩⟩ : Mt) HV1 _ (by (repeat' (first | (with_reducible assumption) | (with_reducible apply SM.alloc) | (with_reducible apply SM.drewN) | (with_reducible apply SM.drew) | ((with_reducible refine SM.set ?_ ?_ _) <;> (first | omega | (simp; done) | (simp; omega) | skip)))))).mono ?_); rintro e wd ⟨rfl, hD⟩; have hB := hD.B) | (go_at_call 59; (with_reducible refine (sm_dark w p p true HD _ (by (repeat' (first | (with_reducible assumption) | (with_reducible apply SM.alloc) | (with_reducible apply SM.drewN) | (with_reducible apply SM.drew) | ((with_reducible refine SM.set ?_ ?_ _) <;> (first | omega | (simp; done) | (simp; omega) | skip)))))).mono ?_); rintro e wd ⟨rfl, hD⟩; have hB := hD.B) | (go_at_call 59; (with_reducible refine (sm_dark w p (⟨⟨1, 0, 1⟩, ⟨0, 0, 1⟩, ⟨0, 0, 1⟩, ⟨1, 0, 1⟩⟩ : Mt) false HD1 _ (by (repeat' (first | (with_reducible assumption) | (with_reducible apply SM.alloc) | (with_reducible apply SM.drewN) | (with_reducible apply SM.drew) | ((with_reducible refine SM.set ?_ ?_ _) <;> (first | omega | (simp; done) | (simp; omega) | skip)))))).mono ?_); rintro e wd ⟨rfl, hD⟩; have hB := hD.B))
  all_goals (go_wp2; go_ret; exact ⟨rfl, by exact below_⟩)
set_option maxRecDepth 100000 in
set_option maxHeartbeats 4000000 in
theorem smatAlike_c (p : Mt) (w : World) (hv : mvalid p = true) (hd : darkB p = false) :
    Calls Tryd.prog 33 #[mtv p, mtv (⟨⟨1, 0, 1⟩, ⟨0, 0, 1⟩, ⟨0, 0, 1⟩, ⟨1, 0, 1⟩⟩ : Mt)] w fun e w' => e = .returned (.bool (crossB p (⟨⟨1, 0, 1⟩, ⟨0, 0, 1⟩, ⟨0, 0, 1⟩, ⟨1, 0, 1⟩⟩ : Mt))) ∧ Below w.heap.size w w' := by
  have htd := told_one hv
  have HV := Lib.hid hv
  have HV1 := Lib.hid (show mvalid (⟨⟨1, 0, 1⟩, ⟨0, 0, 1⟩, ⟨0, 0, 1⟩, ⟨1, 0, 1⟩⟩ : Mt) = true by decide)
  have HD := Lib.hid hd
  have HD1 := Lib.hid (show darkB (⟨⟨1, 0, 1⟩, ⟨0, 0, 1⟩, ⟨0, 0, 1⟩, ⟨1, 0, 1⟩⟩ : Mt) = false by decide)
  clear hv hd
  have hM : SM w p ((w.alloc (.cells #[.int .i64 p.a.re, .int .i64 p.a.im, .int .i64 p.a.den, .int .i64 p.b.re, .int .i64 p.b.im, .int .i64 p.b.den, .int .i64 p.c.re, .int .i64 p.c.im, .int .i64 p.c.den, .int .i64 p.d.re, .int .i64 p.d.im, .int .i64 p.d.den] 44)).alloc (.cells #[.int .i64 1, .int .i64 0, .int .i64 1, .int .i64 0, .int .i64 0, .int .i64 1, .int .i64 0, .int .i64 0, .int .i64 1, .int .i64 1, .int .i64 0, .int .i64 1] 44)) :=
    ⟨(MtAt.new w p _).alloc _, MtAt.new' (by simp) (⟨⟨1, 0, 1⟩, ⟨0, 0, 1⟩, ⟨0, 0, 1⟩, ⟨1, 0, 1⟩⟩ : Mt) _, ((Below.refl _ _).alloc (Nat.le_refl _) _).alloc (by simp) _⟩
  go_enter Tryd.func33, Tryd.ntmps33
  go_upto_region 1 with fail
  go_region_held3 (fun w' => w'.cell? ⟨w.heap.size, 0, none⟩ = some (.int .i64 p.a.re) ∧ w'.cell? ⟨w.heap.size, 1, none⟩ = some (.int .i64 p.a.im) ∧ w'.cell? ⟨w.heap.size, 2, none⟩ = some (.int .i64 p.a.den) ∧ w'.cell? ⟨w.heap.size, 3, none⟩ = some (.int .i64 p.b.re) ∧ w'.cell? ⟨w.heap.size, 4, none⟩ = some (.int .i64 p.b.im) ∧ w'.cell? ⟨w.heap.size, 5, none⟩ = some (.int .i64 p.b.den) ∧ w'.cell? ⟨w.heap.size, 6, none⟩ = some (.int .i64 p.c.re) ∧ w'.cell? ⟨w.heap.size, 7, none⟩ = some (.int .i64 p.c.im) ∧ w'.cell? ⟨w.heap.size, 8, none⟩ = some (.int .i64 p.c.den) ∧ w'.cell? ⟨w.heap.size, 9, none⟩ = some (.int .i64 p.d.re) ∧ w'.cell? ⟨w.heap.size, 10, none⟩ = some (.int .i64 p.d.im) ∧ w'.cell? ⟨w.heap.size, 11, none⟩ = some (.int .i64 p.d.den) ∧ w'.cell? ⟨w.heap.size + 1, 0, none⟩ = some (.int .i64 1) ∧ w'.cell? ⟨w.heap.size + 1, 1, none⟩ = some (.int .i64 0) ∧ w'.cell? ⟨w.heap.size + 1, 2, none⟩ = some (.int .i64 1) ∧ w'.cell? ⟨w.heap.size + 1, 3, none⟩ = some (.int .i64 0) ∧ w'.cell? ⟨w.heap.size + 1, 4, none⟩ = some (.int .i64 0) ∧ w'.cell? ⟨w.heap.size + 1, 5, none⟩ = some (.int .i64 1) ∧ w'.cell? ⟨w.heap.size + 1, 6, none⟩ = some (.int .i64 0) ∧ w'.cell? ⟨w.heap.size + 1, 7, none⟩ = some (.int .i64 0) ∧ w'.cell? ⟨w.heap.size + 1, 8, none⟩ = some (.int .i64 1) ∧ w'.cell? ⟨w.heap.size + 1, 9, none⟩ = some (.int .i64 1) ∧ w'.cell? ⟨w.heap.size + 1, 10, none⟩ = some (.int .i64 0) ∧ w'.cell? ⟨w.heap.size + 1, 11, none⟩ = some (.int .i64 1)) ((refine SM.cells (w := w) ?_; (repeat' (first | (with_reducible assumption) | (with_reducible apply SM.alloc) | (with_reducible apply SM.drewN) | (with_reducible apply SM.drew) | ((with_reducible refine SM.set ?_ ?_ _) <;> (first | omega | (simp; done) | (simp; omega) | skip)))))) (first | (go_at_call 58; (with_reducible refine (sm_valid w p p HV _ (by (repeat' (first | (with_reducible assumption) | (with_reducible apply SM.alloc) | (with_reducible apply SM.drewN) | (with_reducible apply SM.drew) | ((with_reducible refine SM.set ?_ ?_ _) <;> (first | omega | (simp; done) | (simp; omega) | skip)))))).mono ?_); rintro e wd ⟨rfl, hD⟩; have hB := hD.B) | (go_at_call 58; (with_reducible refine (sm_valid w p (⟨⟨1, 0, 1⟩, ⟨0, 0, 1⟩, ⟨0, 0, 1⟩, ⟨1, 0, 1⟩⟩ : Mt) HV1 _ (by (repeat' (first | (with_reducible assumption) | (with_reducible apply SM.alloc) | (with_reducible apply SM.drewN) | (with_reducible apply SM.drew) | ((with_reducible refine SM.set ?_ ?_ _) <;> (first | omega | (simp; done) | (simp; omega) | skip)))))).mono ?_); rintro e wd ⟨rfl, hD⟩; have hB := hD.B) | (go_at_call 59; (with_reducible refine (sm_dark w p p false HD _ (by (repeat' (first | (with_reducible assumption) | (with_reducible apply SM.alloc) | (with_reducible apply SM.drewN) | (with_reducible apply SM.drew) | ((with_reducible refine SM.set ?_ ?_ _) <;> (first | omega | (simp; done) | (simp; omega) | skip)))))).mono ?_); rintro e wd ⟨rfl, hD⟩; have hB := hD.B) | (go_at_call 59; (with_reducible refine (sm_dark w p (⟨⟨1, 0, 1⟩, ⟨0, 0, 1⟩, ⟨0, 0, 1⟩, ⟨1, 0, 1⟩⟩ : Mt) false HD1 _ (by (repeat' (first | (with_reducible assumption) | (with_reducible apply SM.alloc) | (with_reducible apply SM.drewN) | (with_reducible apply SM.drew) | ((with_reducible refine SM.set ?_ ?_ _) <;> (first | omega | (simp; done) | (simp; omega) | skip)))))).mono ?_); rintro e wd ⟨rfl, hD⟩; have hB := hD.B))
  all_goals (
    go_wp2
    go_loopw [5, 6, 7, 8, 9, 10] (fun i _ _ _ _ _ wr => ∃ k : Nat, k ≤ 4 ∧ i = .int .i64 k ∧ Hid (Rows3 p (⟨⟨1, 0, 1⟩, ⟨0, 0, 1⟩, ⟨0, 0, 1⟩, ⟨1, 0, 1⟩⟩ : Mt) k) ∧ SM w p wr) (fun i _ _ _ _ _ _ => 4 - (intOf i).toNat)
    case atStart => exact ⟨0, by omega, rfl, Lib.hid (fun _ _ h => absurd h (Nat.not_lt_zero _)), by (repeat' (first | (with_reducible assumption) | (with_reducible apply SM.alloc) | (with_reducible apply SM.drewN) | (with_reducible apply SM.drew) | ((with_reducible refine SM.set ?_ ?_ _) <;> (first | omega | (simp; done) | (simp; omega) | skip))))⟩
    case round =>
      clear hM
      obtain ⟨i, hi, rfl, hrw, hM⟩ := hrel
      have hB := hM.B
      rcases Nat.lt_or_ge i 4 with hi4 | hi4
      · have hi0 : (i : Int) < 4 := by omega
        have hi00 : (0 : Int) ≤ (i : Int) := by omega
        go_wp2
        go_loopw [6, 7, 8, 9, 10] (fun k _ _ _ _ wr => ∃ j : Nat, j ≤ i ∧ k = .int .i64 j ∧ Hid (Row3 p (⟨⟨1, 0, 1⟩, ⟨0, 0, 1⟩, ⟨0, 0, 1⟩, ⟨1, 0, 1⟩⟩ : Mt) i j) ∧ SM w p wr) (fun k _ _ _ _ _ => i - (intOf k).toNat)
        case atStart => exact ⟨0, by omega, rfl, Lib.hid (fun _ h => absurd h (Nat.not_lt_zero _)), hM⟩
        case round =>
          clear hM hB
          obtain ⟨k, hk, rfl, hro, hM⟩ := hrel
          have hB := hM.B
          rcases Nat.lt_or_ge k i with hki | hki
          · have hk4 : k < 4 := by omega
            have hk0 : (k : Int) < 4 := by omega
            have hki0 : (k : Int) < (i : Int) := by omega
            have hk00 : (0 : Int) ≤ (k : Int) := by omega
            have hlw := hM.lt
            go_upto_region 9 with fail
            go_region_held3 (fun w' => w'.cell? ⟨w.heap.size, i * 3, none⟩ = some (.int .i64 (mf p i).re) ∧ w'.cell? ⟨w.heap.size, i * 3 + 1, none⟩ = some (.int .i64 (mf p i).im) ∧ w'.cell? ⟨w.heap.size, i * 3 + 2, none⟩ = some (.int .i64 (mf p i).den) ∧ w'.cell? ⟨w.heap.size + 1, k * 3, none⟩ = some (.int .i64 (mf (⟨⟨1, 0, 1⟩, ⟨0, 0, 1⟩, ⟨0, 0, 1⟩, ⟨1, 0, 1⟩⟩ : Mt) k).re) ∧ w'.cell? ⟨w.heap.size + 1, k * 3 + 1, none⟩ = some (.int .i64 (mf (⟨⟨1, 0, 1⟩, ⟨0, 0, 1⟩, ⟨0, 0, 1⟩, ⟨1, 0, 1⟩⟩ : Mt) k).im) ∧ w'.cell? ⟨w.heap.size + 1, k * 3 + 2, none⟩ = some (.int .i64 (mf (⟨⟨1, 0, 1⟩, ⟨0, 0, 1⟩, ⟨0, 0, 1⟩, ⟨1, 0, 1⟩⟩ : Mt) k).den)) ((refine SM.two (w := w) ?_ hi4 hk4; (repeat' (first | (with_reducible assumption) | (with_reducible apply SM.alloc) | (with_reducible apply SM.drewN) | (with_reducible apply SM.drew) | ((with_reducible refine SM.set ?_ ?_ _) <;> (first | omega | (simp; done) | (simp; omega) | skip)))))) (first | (go_at_call 54; (with_reducible refine (sm_times w p htd i k hi4 hk4 _ (by (repeat' (first | (with_reducible assumption) | (with_reducible apply SM.alloc) | (with_reducible apply SM.drewN) | (with_reducible apply SM.drew) | ((with_reducible refine SM.set ?_ ?_ _) <;> (first | omega | (simp; done) | (simp; omega) | skip)))))).mono ?_); rintro e wd ⟨rfl, hM, hb⟩; have hB := hM.B; have hlM := hM.lt; have hzb := hb.size; (try simp only [World.size_alloc, World.size_setCell, World.size_drew, World.heap_drewN] at hzb); (try (have hT : FrF wd (wr.heap.size) Z3 := (by refine FrF.below (w := _) ?_ hb ?_; (repeat' (first | (with_reducible assumption) | ((refine FrF.new' ?_ ⟨0, 0, 0⟩ _) <;> (first | rfl | omega | (simp; done) | (simp; omega))) | (with_reducible apply FrF.alloc) | (with_reducible apply FrF.drewN) | (with_reducible apply FrF.drew) | omega | (simp; done) | (simp; omega))); first | done | fail); have hTf := hT.2; unfold FreeB at hTf; obtain ⟨t0, t1, t2⟩ := hT.1; have hTl : wr.heap.size < wd.heap.size := hT.1.lt)); (try (have hxx : FrAt wd b7 (tmv p (⟨⟨1, 0, 1⟩, ⟨0, 0, 1⟩, ⟨0, 0, 1⟩, ⟨1, 0, 1⟩⟩ : Mt) i k) := (by refine FrAt.below (w := _) ?_ hb ?_; (repeat' (first | (with_reducible assumption) | (with_reducible apply FrAt.alloc) | (with_reducible apply FrAt.drewN) | (with_reducible apply FrAt.drew) | omega | (simp; omega))); first | done | fail))); clear hb))
            · obtain ⟨W, hW⟩ : ∃ W, W = wd.alloc (.cells #[.int .i64 (tmv p (⟨⟨1, 0, 1⟩, ⟨0, 0, 1⟩, ⟨0, 0, 1⟩, ⟨1, 0, 1⟩⟩ : Mt) i k).re, .int .i64 (tmv p (⟨⟨1, 0, 1⟩, ⟨0, 0, 1⟩, ⟨0, 0, 1⟩, ⟨1, 0, 1⟩⟩ : Mt) i k).im, .int .i64 (tmv p (⟨⟨1, 0, 1⟩, ⟨0, 0, 1⟩, ⟨0, 0, 1⟩, ⟨1, 0, 1⟩⟩ : Mt) i k).den] 31) := ⟨_, rfl⟩
              obtain ⟨b7, hb7⟩ : ∃ b7, b7 = wd.heap.size := ⟨_, rfl⟩
              have hM : SM w p W := by rw [hW]; exact hM.alloc _
              have hx : FrAt W b7 (tmv p (⟨⟨1, 0, 1⟩, ⟨0, 0, 1⟩, ⟨0, 0, 1⟩, ⟨1, 0, 1⟩⟩ : Mt) i k) := by rw [hW, hb7]; exact FrAt.new wd _ _
              rw [← hW, ← hb7]
              clear hW hb7
              have hlw := hM.lt
              have hl7 := hx.lt
              go_upto_region 10 with fail
              go_region_held3 (fun w' => w'.cell? ⟨w.heap.size, k * 3, none⟩ = some (.int .i64 (mf p k).re) ∧ w'.cell? ⟨w.heap.size, k * 3 + 1, none⟩ = some (.int .i64 (mf p k).im) ∧ w'.cell? ⟨w.heap.size, k * 3 + 2, none⟩ = some (.int .i64 (mf p k).den) ∧ w'.cell? ⟨w.heap.size + 1, i * 3, none⟩ = some (.int .i64 (mf (⟨⟨1, 0, 1⟩, ⟨0, 0, 1⟩, ⟨0, 0, 1⟩, ⟨1, 0, 1⟩⟩ : Mt) i).re) ∧ w'.cell? ⟨w.heap.size + 1, i * 3 + 1, none⟩ = some (.int .i64 (mf (⟨⟨1, 0, 1⟩, ⟨0, 0, 1⟩, ⟨0, 0, 1⟩, ⟨1, 0, 1⟩⟩ : Mt) i).im) ∧ w'.cell? ⟨w.heap.size + 1, i * 3 + 2, none⟩ = some (.int .i64 (mf (⟨⟨1, 0, 1⟩, ⟨0, 0, 1⟩, ⟨0, 0, 1⟩, ⟨1, 0, 1⟩⟩ : Mt) i).den)) ((refine SM.two (w := w) ?_ hk4 hi4; (repeat' (first | (with_reducible assumption) | (with_reducible apply SM.alloc) | (with_reducible apply SM.drewN) | (with_reducible apply SM.drew) | ((with_reducible refine SM.set ?_ ?_ _) <;> (first | omega | (simp; done) | (simp; omega) | skip)))))) (first | (go_at_call 54; (with_reducible refine (sm_times w p htd k i hk4 hi4 _ (by (repeat' (first | (with_reducible assumption) | (with_reducible apply SM.alloc) | (with_reducible apply SM.drewN) | (with_reducible apply SM.drew) | ((with_reducible refine SM.set ?_ ?_ _) <;> (first | omega | (simp; done) | (simp; omega) | skip)))))).mono ?_); rintro e we ⟨rfl, hM, hb⟩; have hB := hM.B; have hlM := hM.lt; have hzb := hb.size; (try simp only [World.size_alloc, World.size_setCell, World.size_drew, World.heap_drewN] at hzb); (try (have hT : FrF we (W.heap.size) Z3 := (by refine FrF.below (w := _) ?_ hb ?_; (repeat' (first | (with_reducible assumption) | ((refine FrF.new' ?_ ⟨0, 0, 0⟩ _) <;> (first | rfl | omega | (simp; done) | (simp; omega))) | (with_reducible apply FrF.alloc) | (with_reducible apply FrF.drewN) | (with_reducible apply FrF.drew) | omega | (simp; done) | (simp; omega))); first | done | fail); have hTf := hT.2; unfold FreeB at hTf; obtain ⟨t0, t1, t2⟩ := hT.1; have hTl : W.heap.size < we.heap.size := hT.1.lt)); (try (have hxx : FrAt we b7 (tmv p (⟨⟨1, 0, 1⟩, ⟨0, 0, 1⟩, ⟨0, 0, 1⟩, ⟨1, 0, 1⟩⟩ : Mt) i k) := (by refine FrAt.below (w := _) ?_ hb ?_; (repeat' (first | (with_reducible assumption) | (with_reducible apply FrAt.alloc) | (with_reducible apply FrAt.drewN) | (with_reducible apply FrAt.drew) | omega | (simp; omega))); first | done | fail))); clear hb))
              · obtain ⟨V, hV⟩ : ∃ V, V = we.alloc (.cells #[.int .i64 (tmv p (⟨⟨1, 0, 1⟩, ⟨0, 0, 1⟩, ⟨0, 0, 1⟩, ⟨1, 0, 1⟩⟩ : Mt) k i).re, .int .i64 (tmv p (⟨⟨1, 0, 1⟩, ⟨0, 0, 1⟩, ⟨0, 0, 1⟩, ⟨1, 0, 1⟩⟩ : Mt) k i).im, .int .i64 (tmv p (⟨⟨1, 0, 1⟩, ⟨0, 0, 1⟩, ⟨0, 0, 1⟩, ⟨1, 0, 1⟩⟩ : Mt) k i).den] 31) := ⟨_, rfl⟩
                obtain ⟨b9, hb9⟩ : ∃ b9, b9 = we.heap.size := ⟨_, rfl⟩
                have hM : SM w p V := by rw [hV]; exact hM.alloc _
                have hx : FrAt V b7 (tmv p (⟨⟨1, 0, 1⟩, ⟨0, 0, 1⟩, ⟨0, 0, 1⟩, ⟨1, 0, 1⟩⟩ : Mt) i k) := by rw [hV]; exact hxx.alloc _
                have hy : FrAt V b9 (tmv p (⟨⟨1, 0, 1⟩, ⟨0, 0, 1⟩, ⟨0, 0, 1⟩, ⟨1, 0, 1⟩⟩ : Mt) k i) := by rw [hV, hb9]; exact FrAt.new we _ _
                rw [← hV, ← hb9]
                clear hV hb9
                obtain ⟨x0, x1, x2⟩ := hx
                obtain ⟨y0, y1, y2⟩ := hy
                have hB := hM.B
                cases h1 : ((tmv p (⟨⟨1, 0, 1⟩, ⟨0, 0, 1⟩, ⟨0, 0, 1⟩, ⟨1, 0, 1⟩⟩ : Mt) i k).re == (tmv p (⟨⟨1, 0, 1⟩, ⟨0, 0, 1⟩, ⟨0, 0, 1⟩, ⟨1, 0, 1⟩⟩ : Mt) k i).re)
                · have hf : crossB p (⟨⟨1, 0, 1⟩, ⟨0, 0, 1⟩, ⟨0, 0, 1⟩, ⟨1, 0, 1⟩⟩ : Mt) = false := crossB_f hi4 hk4 (by omega) (by rw [← fr_eq, h1]; simp)
                  go_wp2
                  go_ret
                  exact ⟨by (try simp only [hf]); (first | done | rfl), by exact below_⟩
                cases h2 : ((tmv p (⟨⟨1, 0, 1⟩, ⟨0, 0, 1⟩, ⟨0, 0, 1⟩, ⟨1, 0, 1⟩⟩ : Mt) i k).im == (tmv p (⟨⟨1, 0, 1⟩, ⟨0, 0, 1⟩, ⟨0, 0, 1⟩, ⟨1, 0, 1⟩⟩ : Mt) k i).im)
                · have hf : crossB p (⟨⟨1, 0, 1⟩, ⟨0, 0, 1⟩, ⟨0, 0, 1⟩, ⟨1, 0, 1⟩⟩ : Mt) = false := crossB_f hi4 hk4 (by omega) (by rw [← fr_eq, h2]; simp)
                  go_wp2
                  go_ret
                  exact ⟨by (try simp only [hf]); (first | done | rfl), by exact below_⟩
                cases h3 : ((tmv p (⟨⟨1, 0, 1⟩, ⟨0, 0, 1⟩, ⟨0, 0, 1⟩, ⟨1, 0, 1⟩⟩ : Mt) i k).den == (tmv p (⟨⟨1, 0, 1⟩, ⟨0, 0, 1⟩, ⟨0, 0, 1⟩, ⟨1, 0, 1⟩⟩ : Mt) k i).den)
                · have hf : crossB p (⟨⟨1, 0, 1⟩, ⟨0, 0, 1⟩, ⟨0, 0, 1⟩, ⟨1, 0, 1⟩⟩ : Mt) = false := crossB_f hi4 hk4 (by omega) (by rw [← fr_eq, h3]; simp)
                  go_wp2
                  go_ret
                  exact ⟨by (try simp only [hf]); (first | done | rfl), by exact below_⟩
                have he : (tmv p (⟨⟨1, 0, 1⟩, ⟨0, 0, 1⟩, ⟨0, 0, 1⟩, ⟨1, 0, 1⟩⟩ : Mt) i k) = (tmv p (⟨⟨1, 0, 1⟩, ⟨0, 0, 1⟩, ⟨0, 0, 1⟩, ⟨1, 0, 1⟩⟩ : Mt) k i) := by
                  have : ((tmv p (⟨⟨1, 0, 1⟩, ⟨0, 0, 1⟩, ⟨0, 0, 1⟩, ⟨1, 0, 1⟩⟩ : Mt) i k) == (tmv p (⟨⟨1, 0, 1⟩, ⟨0, 0, 1⟩, ⟨0, 0, 1⟩, ⟨1, 0, 1⟩⟩ : Mt) k i)) = true := by rw [← fr_eq, h1, h2, h3]; rfl
                  exact eq_of_beq this
                go_wp2
                go_roundw
                case rel => exact ⟨k + 1, by omega, by go_num, Lib.hid (hro.out.next he), hM⟩
                case measure => simp [intOf]; omega
              · obtain ⟨V, hV⟩ : ∃ V, V = ((we.setCell ⟨W.heap.size, 0, none⟩ (.int .i64 (tmv p (⟨⟨1, 0, 1⟩, ⟨0, 0, 1⟩, ⟨0, 0, 1⟩, ⟨1, 0, 1⟩⟩ : Mt) k i).re)).setCell ⟨W.heap.size, 1, none⟩ (.int .i64 (tmv p (⟨⟨1, 0, 1⟩, ⟨0, 0, 1⟩, ⟨0, 0, 1⟩, ⟨1, 0, 1⟩⟩ : Mt) k i).im)).setCell ⟨W.heap.size, 2, none⟩ (.int .i64 (tmv p (⟨⟨1, 0, 1⟩, ⟨0, 0, 1⟩, ⟨0, 0, 1⟩, ⟨1, 0, 1⟩⟩ : Mt) k i).den) := ⟨_, rfl⟩
                obtain ⟨b9, hb9⟩ : ∃ b9, b9 = W.heap.size := ⟨_, rfl⟩
                have hM : SM w p V := by rw [hV]; exact ((hM.set (by simp; omega) _).set (by simp; omega) _).set (by simp; omega) _
                have hx : FrAt V b7 (tmv p (⟨⟨1, 0, 1⟩, ⟨0, 0, 1⟩, ⟨0, 0, 1⟩, ⟨1, 0, 1⟩⟩ : Mt) i k) := by rw [hV]; exact ((hxx.far (by simp; omega) _).far (by simp; omega) _).far (by simp; omega) _
                have hy : FrAt V b9 (tmv p (⟨⟨1, 0, 1⟩, ⟨0, 0, 1⟩, ⟨0, 0, 1⟩, ⟨1, 0, 1⟩⟩ : Mt) k i) := by rw [hV, hb9]; exact setF_at hT.1
                rw [← hV, ← hb9]
                clear hV hb9
                obtain ⟨x0, x1, x2⟩ := hx
                obtain ⟨y0, y1, y2⟩ := hy
                have hB := hM.B
                cases h1 : ((tmv p (⟨⟨1, 0, 1⟩, ⟨0, 0, 1⟩, ⟨0, 0, 1⟩, ⟨1, 0, 1⟩⟩ : Mt) i k).re == (tmv p (⟨⟨1, 0, 1⟩, ⟨0, 0, 1⟩, ⟨0, 0, 1⟩, ⟨1, 0, 1⟩⟩ : Mt) k i).re)
                · have hf : crossB p (⟨⟨1, 0, 1⟩, ⟨0, 0, 1⟩, ⟨0, 0, 1⟩, ⟨1, 0, 1⟩⟩ : Mt) = false := crossB_f hi4 hk4 (by omega) (by rw [← fr_eq, h1]; simp)
                  go_wp2
                  go_ret
                  exact ⟨by (try simp only [hf]); (first | done | rfl), by exact below_⟩
                cases h2 : ((tmv p (⟨⟨1, 0, 1⟩, ⟨0, 0, 1⟩, ⟨0, 0, 1⟩, ⟨1, 0, 1⟩⟩ : Mt) i k).im == (tmv p (⟨⟨1, 0, 1⟩, ⟨0, 0, 1⟩, ⟨0, 0, 1⟩, ⟨1, 0, 1⟩⟩ : Mt) k i).im)
                · have hf : crossB p (⟨⟨1, 0, 1⟩, ⟨0, 0, 1⟩, ⟨0, 0, 1⟩, ⟨1, 0, 1⟩⟩ : Mt) = false := crossB_f hi4 hk4 (by omega) (by rw [← fr_eq, h2]; simp)
                  go_wp2
                  go_ret
                  exact ⟨by (try simp only [hf]); (first | done | rfl), by exact below_⟩
                cases h3 : ((tmv p (⟨⟨1, 0, 1⟩, ⟨0, 0, 1⟩, ⟨0, 0, 1⟩, ⟨1, 0, 1⟩⟩ : Mt) i k).den == (tmv p (⟨⟨1, 0, 1⟩, ⟨0, 0, 1⟩, ⟨0, 0, 1⟩, ⟨1, 0, 1⟩⟩ : Mt) k i).den)
                · have hf : crossB p (⟨⟨1, 0, 1⟩, ⟨0, 0, 1⟩, ⟨0, 0, 1⟩, ⟨1, 0, 1⟩⟩ : Mt) = false := crossB_f hi4 hk4 (by omega) (by rw [← fr_eq, h3]; simp)
                  go_wp2
                  go_ret
                  exact ⟨by (try simp only [hf]); (first | done | rfl), by exact below_⟩
                have he : (tmv p (⟨⟨1, 0, 1⟩, ⟨0, 0, 1⟩, ⟨0, 0, 1⟩, ⟨1, 0, 1⟩⟩ : Mt) i k) = (tmv p (⟨⟨1, 0, 1⟩, ⟨0, 0, 1⟩, ⟨0, 0, 1⟩, ⟨1, 0, 1⟩⟩ : Mt) k i) := by
                  have : ((tmv p (⟨⟨1, 0, 1⟩, ⟨0, 0, 1⟩, ⟨0, 0, 1⟩, ⟨1, 0, 1⟩⟩ : Mt) i k) == (tmv p (⟨⟨1, 0, 1⟩, ⟨0, 0, 1⟩, ⟨0, 0, 1⟩, ⟨1, 0, 1⟩⟩ : Mt) k i)) = true := by rw [← fr_eq, h1, h2, h3]; rfl
                  exact eq_of_beq this
                go_wp2
                go_roundw
                case rel => exact ⟨k + 1, by omega, by go_num, Lib.hid (hro.out.next he), hM⟩
                case measure => simp [intOf]; omega
            · obtain ⟨W, hW⟩ : ∃ W, W = ((wd.setCell ⟨wr.heap.size, 0, none⟩ (.int .i64 (tmv p (⟨⟨1, 0, 1⟩, ⟨0, 0, 1⟩, ⟨0, 0, 1⟩, ⟨1, 0, 1⟩⟩ : Mt) i k).re)).setCell ⟨wr.heap.size, 1, none⟩ (.int .i64 (tmv p (⟨⟨1, 0, 1⟩, ⟨0, 0, 1⟩, ⟨0, 0, 1⟩, ⟨1, 0, 1⟩⟩ : Mt) i k).im)).setCell ⟨wr.heap.size, 2, none⟩ (.int .i64 (tmv p (⟨⟨1, 0, 1⟩, ⟨0, 0, 1⟩, ⟨0, 0, 1⟩, ⟨1, 0, 1⟩⟩ : Mt) i k).den) := ⟨_, rfl⟩
              obtain ⟨b7, hb7⟩ : ∃ b7, b7 = wr.heap.size := ⟨_, rfl⟩
              have hM : SM w p W := by rw [hW]; exact ((hM.set (by simp; omega) _).set (by simp; omega) _).set (by simp; omega) _
              have hx : FrAt W b7 (tmv p (⟨⟨1, 0, 1⟩, ⟨0, 0, 1⟩, ⟨0, 0, 1⟩, ⟨1, 0, 1⟩⟩ : Mt) i k) := by rw [hW, hb7]; exact setF_at hT.1
              rw [← hW, ← hb7]
              clear hW hb7
              have hlw := hM.lt
              have hl7 := hx.lt
              go_upto_region 10 with fail
              go_region_held3 (fun w' => w'.cell? ⟨w.heap.size, k * 3, none⟩ = some (.int .i64 (mf p k).re) ∧ w'.cell? ⟨w.heap.size, k * 3 + 1, none⟩ = some (.int .i64 (mf p k).im) ∧ w'.cell? ⟨w.heap.size, k * 3 + 2, none⟩ = some (.int .i64 (mf p k).den) ∧ w'.cell? ⟨w.heap.size + 1, i * 3, none⟩ = some (.int .i64 (mf (⟨⟨1, 0, 1⟩, ⟨0, 0, 1⟩, ⟨0, 0, 1⟩, ⟨1, 0, 1⟩⟩ : Mt) i).re) ∧ w'.cell? ⟨w.heap.size + 1, i * 3 + 1, none⟩ = some (.int .i64 (mf (⟨⟨1, 0, 1⟩, ⟨0, 0, 1⟩, ⟨0, 0, 1⟩, ⟨1, 0, 1⟩⟩ : Mt) i).im) ∧ w'.cell? ⟨w.heap.size + 1, i * 3 + 2, none⟩ = some (.int .i64 (mf (⟨⟨1, 0, 1⟩, ⟨0, 0, 1⟩, ⟨0, 0, 1⟩, ⟨1, 0, 1⟩⟩ : Mt) i).den)) ((refine SM.two (w := w) ?_ hk4 hi4; (repeat' (first | (with_reducible assumption) | (with_reducible apply SM.alloc) | (with_reducible apply SM.drewN) | (with_reducible apply SM.drew) | ((with_reducible refine SM.set ?_ ?_ _) <;> (first | omega | (simp; done) | (simp; omega) | skip)))))) (first | (go_at_call 54; (with_reducible refine (sm_times w p htd k i hk4 hi4 _ (by (repeat' (first | (with_reducible assumption) | (with_reducible apply SM.alloc) | (with_reducible apply SM.drewN) | (with_reducible apply SM.drew) | ((with_reducible refine SM.set ?_ ?_ _) <;> (first | omega | (simp; done) | (simp; omega) | skip)))))).mono ?_); rintro e we ⟨rfl, hM, hb⟩; have hB := hM.B; have hlM := hM.lt; have hzb := hb.size; (try simp only [World.size_alloc, World.size_setCell, World.size_drew, World.heap_drewN] at hzb); (try (have hT : FrF we (W.heap.size) Z3 := (by refine FrF.below (w := _) ?_ hb ?_; (repeat' (first | (with_reducible assumption) | ((refine FrF.new' ?_ ⟨0, 0, 0⟩ _) <;> (first | rfl | omega | (simp; done) | (simp; omega))) | (with_reducible apply FrF.alloc) | (with_reducible apply FrF.drewN) | (with_reducible apply FrF.drew) | omega | (simp; done) | (simp; omega))); first | done | fail); have hTf := hT.2; unfold FreeB at hTf; obtain ⟨t0, t1, t2⟩ := hT.1; have hTl : W.heap.size < we.heap.size := hT.1.lt)); (try (have hxx : FrAt we b7 (tmv p (⟨⟨1, 0, 1⟩, ⟨0, 0, 1⟩, ⟨0, 0, 1⟩, ⟨1, 0, 1⟩⟩ : Mt) i k) := (by refine FrAt.below (w := _) ?_ hb ?_; (repeat' (first | (with_reducible assumption) | (with_reducible apply FrAt.alloc) | (with_reducible apply FrAt.drewN) | (with_reducible apply FrAt.drew) | omega | (simp; omega))); first | done | fail))); clear hb))
              · obtain ⟨V, hV⟩ : ∃ V, V = we.alloc (.cells #[.int .i64 (tmv p (⟨⟨1, 0, 1⟩, ⟨0, 0, 1⟩, ⟨0, 0, 1⟩, ⟨1, 0, 1⟩⟩ : Mt) k i).re, .int .i64 (tmv p (⟨⟨1, 0, 1⟩, ⟨0, 0, 1⟩, ⟨0, 0, 1⟩, ⟨1, 0, 1⟩⟩ : Mt) k i).im, .int .i64 (tmv p (⟨⟨1, 0, 1⟩, ⟨0, 0, 1⟩, ⟨0, 0, 1⟩, ⟨1, 0, 1⟩⟩ : Mt) k i).den] 31) := ⟨_, rfl⟩
                obtain ⟨b9, hb9⟩ : ∃ b9, b9 = we.heap.size := ⟨_, rfl⟩
                have hM : SM w p V := by rw [hV]; exact hM.alloc _
                have hx : FrAt V b7 (tmv p (⟨⟨1, 0, 1⟩, ⟨0, 0, 1⟩, ⟨0, 0, 1⟩, ⟨1, 0, 1⟩⟩ : Mt) i k) := by rw [hV]; exact hxx.alloc _
                have hy : FrAt V b9 (tmv p (⟨⟨1, 0, 1⟩, ⟨0, 0, 1⟩, ⟨0, 0, 1⟩, ⟨1, 0, 1⟩⟩ : Mt) k i) := by rw [hV, hb9]; exact FrAt.new we _ _
                rw [← hV, ← hb9]
                clear hV hb9
                obtain ⟨x0, x1, x2⟩ := hx
                obtain ⟨y0, y1, y2⟩ := hy
                have hB := hM.B
                cases h1 : ((tmv p (⟨⟨1, 0, 1⟩, ⟨0, 0, 1⟩, ⟨0, 0, 1⟩, ⟨1, 0, 1⟩⟩ : Mt) i k).re == (tmv p (⟨⟨1, 0, 1⟩, ⟨0, 0, 1⟩, ⟨0, 0, 1⟩, ⟨1, 0, 1⟩⟩ : Mt) k i).re)
                · have hf : crossB p (⟨⟨1, 0, 1⟩, ⟨0, 0, 1⟩, ⟨0, 0, 1⟩, ⟨1, 0, 1⟩⟩ : Mt) = false := crossB_f hi4 hk4 (by omega) (by rw [← fr_eq, h1]; simp)
                  go_wp2
                  go_ret
                  exact ⟨by (try simp only [hf]); (first | done | rfl), by exact below_⟩
                cases h2 : ((tmv p (⟨⟨1, 0, 1⟩, ⟨0, 0, 1⟩, ⟨0, 0, 1⟩, ⟨1, 0, 1⟩⟩ : Mt) i k).im == (tmv p (⟨⟨1, 0, 1⟩, ⟨0, 0, 1⟩, ⟨0, 0, 1⟩, ⟨1, 0, 1⟩⟩ : Mt) k i).im)
                · have hf : crossB p (⟨⟨1, 0, 1⟩, ⟨0, 0, 1⟩, ⟨0, 0, 1⟩, ⟨1, 0, 1⟩⟩ : Mt) = false := crossB_f hi4 hk4 (by omega) (by rw [← fr_eq, h2]; simp)
                  go_wp2
                  go_ret
                  exact ⟨by (try simp only [hf]); (first | done | rfl), by exact below_⟩
                cases h3 : ((tmv p (⟨⟨1, 0, 1⟩, ⟨0, 0, 1⟩, ⟨0, 0, 1⟩, ⟨1, 0, 1⟩⟩ : Mt) i k).den == (tmv p (⟨⟨1, 0, 1⟩, ⟨0, 0, 1⟩, ⟨0, 0, 1⟩, ⟨1, 0, 1⟩⟩ : Mt) k i).den)
                · have hf : crossB p (⟨⟨1, 0, 1⟩, ⟨0, 0, 1⟩, ⟨0, 0, 1⟩, ⟨1, 0, 1⟩⟩ : Mt) = false := crossB_f hi4 hk4 (by omega) (by rw [← fr_eq, h3]; simp)
                  go_wp2
                  go_ret
                  exact ⟨by (try simp only [hf]); (first | done | rfl), by exact below_⟩
                have he : (tmv p (⟨⟨1, 0, 1⟩, ⟨0, 0, 1⟩, ⟨0, 0, 1⟩, ⟨1, 0, 1⟩⟩ : Mt) i k) = (tmv p (⟨⟨1, 0, 1⟩, ⟨0, 0, 1⟩, ⟨0, 0, 1⟩, ⟨1, 0, 1⟩⟩ : Mt) k i) := by
                  have : ((tmv p (⟨⟨1, 0, 1⟩, ⟨0, 0, 1⟩, ⟨0, 0, 1⟩, ⟨1, 0, 1⟩⟩ : Mt) i k) == (tmv p (⟨⟨1, 0, 1⟩, ⟨0, 0, 1⟩, ⟨0, 0, 1⟩, ⟨1, 0, 1⟩⟩ : Mt) k i)) = true := by rw [← fr_eq, h1, h2, h3]; rfl
                  exact eq_of_beq this
                go_wp2
                go_roundw
                case rel => exact ⟨k + 1, by omega, by go_num, Lib.hid (hro.out.next he), hM⟩
                case measure => simp [intOf]; omega
              · obtain ⟨V, hV⟩ : ∃ V, V = ((we.setCell ⟨W.heap.size, 0, none⟩ (.int .i64 (tmv p (⟨⟨1, 0, 1⟩, ⟨0, 0, 1⟩, ⟨0, 0, 1⟩, ⟨1, 0, 1⟩⟩ : Mt) k i).re)).setCell ⟨W.heap.size, 1, none⟩ (.int .i64 (tmv p (⟨⟨1, 0, 1⟩, ⟨0, 0, 1⟩, ⟨0, 0, 1⟩, ⟨1, 0, 1⟩⟩ : Mt) k i).im)).setCell ⟨W.heap.size, 2, none⟩ (.int .i64 (tmv p (⟨⟨1, 0, 1⟩, ⟨0, 0, 1⟩, ⟨0, 0, 1⟩, ⟨1, 0, 1⟩⟩ : Mt) k i).den) := ⟨_, rfl⟩
                obtain ⟨b9, hb9⟩ : ∃ b9, b9 = W.heap.size := ⟨_, rfl⟩
                have hM : SM w p V := by rw [hV]; exact ((hM.set (by simp; omega) _).set (by simp; omega) _).set (by simp; omega) _
                have hx : FrAt V b7 (tmv p (⟨⟨1, 0, 1⟩, ⟨0, 0, 1⟩, ⟨0, 0, 1⟩, ⟨1, 0, 1⟩⟩ : Mt) i k) := by rw [hV]; exact ((hxx.far (by simp; omega) _).far (by simp; omega) _).far (by simp; omega) _
                have hy : FrAt V b9 (tmv p (⟨⟨1, 0, 1⟩, ⟨0, 0, 1⟩, ⟨0, 0, 1⟩, ⟨1, 0, 1⟩⟩ : Mt) k i) := by rw [hV, hb9]; exact setF_at hT.1
                rw [← hV, ← hb9]
                clear hV hb9
                obtain ⟨x0, x1, x2⟩ := hx
                obtain ⟨y0, y1, y2⟩ := hy
                have hB := hM.B
                cases h1 : ((tmv p (⟨⟨1, 0, 1⟩, ⟨0, 0, 1⟩, ⟨0, 0, 1⟩, ⟨1, 0, 1⟩⟩ : Mt) i k).re == (tmv p (⟨⟨1, 0, 1⟩, ⟨0, 0, 1⟩, ⟨0, 0, 1⟩, ⟨1, 0, 1⟩⟩ : Mt) k i).re)
                · have hf : crossB p (⟨⟨1, 0, 1⟩, ⟨0, 0, 1⟩, ⟨0, 0, 1⟩, ⟨1, 0, 1⟩⟩ : Mt) = false := crossB_f hi4 hk4 (by omega) (by rw [← fr_eq, h1]; simp)
                  go_wp2
                  go_ret
                  exact ⟨by (try simp only [hf]); (first | done | rfl), by exact below_⟩
                cases h2 : ((tmv p (⟨⟨1, 0, 1⟩, ⟨0, 0, 1⟩, ⟨0, 0, 1⟩, ⟨1, 0, 1⟩⟩ : Mt) i k).im == (tmv p (⟨⟨1, 0, 1⟩, ⟨0, 0, 1⟩, ⟨0, 0, 1⟩, ⟨1, 0, 1⟩⟩ : Mt) k i).im)
                · have hf : crossB p (⟨⟨1, 0, 1⟩, ⟨0, 0, 1⟩, ⟨0, 0, 1⟩, ⟨1, 0, 1⟩⟩ : Mt) = false := crossB_f hi4 hk4 (by omega) (by rw [← fr_eq, h2]; simp)
                  go_wp2
                  go_ret
                  exact ⟨by (try simp only [hf]); (first | done | rfl), by exact below_⟩
                cases h3 : ((tmv p (⟨⟨1, 0, 1⟩, ⟨0, 0, 1⟩, ⟨0, 0, 1⟩, ⟨1, 0, 1⟩⟩ : Mt) i k).den == (tmv p (⟨⟨1, 0, 1⟩, ⟨0, 0, 1⟩, ⟨0, 0, 1⟩, ⟨1, 0, 1⟩⟩ : Mt) k i).den)
                · have hf : crossB p (⟨⟨1, 0, 1⟩, ⟨0, 0, 1⟩, ⟨0, 0, 1⟩, ⟨1, 0, 1⟩⟩ : Mt) = false := crossB_f hi4 hk4 (by omega) (by rw [← fr_eq, h3]; simp)
                  go_wp2
                  go_ret
                  exact ⟨by (try simp only [hf]); (first | done | rfl), by exact below_⟩
                have he : (tmv p (⟨⟨1, 0, 1⟩, ⟨0, 0, 1⟩, ⟨0, 0, 1⟩, ⟨1, 0, 1⟩⟩ : Mt) i k) = (tmv p (⟨⟨1, 0, 1⟩, ⟨0, 0, 1⟩, ⟨0, 0, 1⟩, ⟨1, 0, 1⟩⟩ : Mt) k i) := by
                  have : ((tmv p (⟨⟨1, 0, 1⟩, ⟨0, 0, 1⟩, ⟨0, 0, 1⟩, ⟨1, 0, 1⟩⟩ : Mt) i k) == (tmv p (⟨⟨1, 0, 1⟩, ⟨0, 0, 1⟩, ⟨0, 0, 1⟩, ⟨1, 0, 1⟩⟩ : Mt) k i)) = true := by rw [← fr_eq, h1, h2, h3]; rfl
                  exact eq_of_beq this
                go_wp2
                go_roundw
                case rel => exact ⟨k + 1, by omega, by go_num, Lib.hid (hro.out.next he), hM⟩
                case measure => simp [intOf]; omega
          · obtain rfl : k = i := by omega
            go_wp2
            go_roundw
            case rel => exact ⟨k + 1, by omega, by go_num, Lib.hid (hrw.out.next hro.out), hM⟩
            case measure => simp [intOf]; omega
      · obtain rfl : i = 4 := by omega
        go_wp2
        go_ret
        exact ⟨by rw [rows3_t hrw.out]; rfl, by exact below_⟩)
end Go.Proofs.YtiagnnmnaakmoaaDoor
