/-
  The walk of the statement that distances are the same both ways: it returns true, for all bytes.
-/
import Derived.Test.YtddfpbdmppnkiaaQc
import Derived.Test.YtddfpbdmppnkiaaQe
import Derived.Test.YtddfpbdmppnkiaaFg
import Derived.Test.YtddfpbdmppnkiaaDw
import Derived.Deep.RegionHeld3
import Derived.Deep.CutRange
namespace Go.Proofs.Ytddfpbdmppnkiaa
set_option linter.unusedSimpArgs false
set_option linter.unusedVariables false
open Go.RowKit
attribute [local go_sem ↓] Go.wp_at_zero Go.wp_at_succ
/-- The results' places, the reader, the first fraction. -/
structure TD (w : World) (b5 : Nat) (x : Fr) (W : World) : Prop where
  r0 : FrG W w.heap.size ⟨0, 0, 0⟩
  r1 : FrG W (w.heap.size + 1) ⟨0, 0, 0⟩
  r : RdEx 8 W (w.heap.size + 1 + 1)
  c : FrG W b5 x
  B : Below w.heap.size w W
  d : w.heap.size + 1 + 1 < b5
section
variable {w W w1 : World} {b5 : Nat} {x : Fr}
theorem TD.alloc (h : TD w b5 x W) (o : Obj) : TD w b5 x (W.alloc o) := ⟨h.r0.alloc o, h.r1.alloc o, h.r.alloc o, h.c.alloc o, h.B.alloc h.B.size o, h.d⟩
theorem TD.drew (h : TD w b5 x W) : TD w b5 x W.drew := ⟨h.r0.drew, h.r1.drew, h.r.drew, h.c.drew, h.B.drew, h.d⟩
theorem TD.drewN (h : TD w b5 x W) (n : Nat) : TD w b5 x (W.drewN n) := ⟨h.r0.drewN n, h.r1.drewN n, h.r.drewN n, h.c.drewN n, below_drewN h.B n, h.d⟩
/-- What the second draw leaves. -/
structure TE (w : World) (b5 : Nat) (x : Fr) (W : World) : Prop where
  r0 : FrG W w.heap.size ⟨0, 0, 0⟩
  r1 : FrG W (w.heap.size + 1) ⟨0, 0, 0⟩
  c : FrG W b5 x
  B : Below w.heap.size w W
def DrE (w : World) (b5 : Nat) (x : Fr) (e : Ending) (w' : World) : Prop := ∃ y : Fr, e = .returned (frv y) ∧ TE w b5 x w'
theorem td_frac (h : TD w b5 x W) : Calls Try.prog 29 #[.pointer (some ⟨w.heap.size + 1 + 1, 0, none⟩)] W (DrE w b5 x) := by
  refine (dfrac_any (w.heap.size + 1 + 1) W h.r).mono ?_
  rintro e w1 ⟨y, rfl, ⟨-, hx⟩, -⟩
  have hd := h.d
  exact ⟨y, rfl, h.r0.step hx h.r0.lt (by omega), h.r1.step hx h.r1.lt (by omega), h.c.step hx h.c.lt (by omega), (BelX.step (BelX.of h.B) hx h.B.size).below (by omega)⟩
end
def Two (w : World) (e : Ending) (w' : World) : Prop := ∃ x y : Fr, e = .returned (.tuple #[frv x, frv y]) ∧ Below w.heap.size w w'
set_option maxRecDepth 100000 in
set_option maxHeartbeats 4000000 in
theorem fracs_any (A : Option Addr) (len cap : Nat) (w : World) (hby : Bytes A len cap w) :
    Calls Try.prog 23 #[.slice A len cap] w (Two w) := by
  have hB0 : Below w.heap.size w ((w.alloc (.cells #[.int .i64 0, .int .i64 0, .int .i64 0] 27)).alloc (.cells #[.int .i64 0, .int .i64 0, .int .i64 0] 27)) := by (repeat' (first | (with_reducible exact Below.refl _ _) | (with_reducible assumption) | (with_reducible refine Below.setCell ?_ (by first | omega | (simp; done) | (simp; omega)) _) | (with_reducible refine Below.alloc ?_ (by first | omega | (simp; done) | (simp; omega)) _) | (with_reducible refine below_drewN ?_ _) | (with_reducible refine Below.drew ?_)))
  have h00 := (FrG.new w ⟨0, 0, 0⟩ 27).alloc (.cells #[.int .i64 0, .int .i64 0, .int .i64 0] 27)
  have h10 : FrG ((w.alloc (.cells #[.int .i64 0, .int .i64 0, .int .i64 0] 27)).alloc (.cells #[.int .i64 0, .int .i64 0, .int .i64 0] 27)) (w.heap.size + 1) ⟨0, 0, 0⟩ := by simpa using FrG.new (w.alloc (.cells #[.int .i64 0, .int .i64 0, .int .i64 0] 27)) ⟨0, 0, 0⟩ 27
  go_enter Try.func23, Try.ntmps23
  go_wp2_with (go_at_call 28; (with_reducible refine (openB A len cap _ (w.heap.size + 1 + 1) (by simp) (hby.below hB0)).mono ?_); rintro e w1 ⟨rfl, hr1, hb⟩; refine Hid.out ?_)
  refine Lib.hid ?_
  have h01 := h00.below hb
  have h11 := h10.below hb
  have hB1 : Below w.heap.size w w1 := bstep hB0 hb (by simp; omega)
  have hlr := hr1.lt
  clear hb h00 h10 hB0
  go_wp2_with (go_at_call 29; (with_reducible refine (dfrac_any (w.heap.size + 1 + 1) _ (RdEx.of hr1 (by omega))).mono ?_); rintro e w2 ⟨x, rfl, ⟨hu, hx⟩, -⟩; refine Hid.out ?_)
  refine Lib.hid ?_
  have hr2 := (RdEx.of (hu _ hr1) (m := 8) (by omega)).alloc (.cells #[.int .i64 x.re, .int .i64 x.im, .int .i64 x.den] 27)
  have h02 := (h01.step hx h01.lt (by omega)).alloc (.cells #[.int .i64 x.re, .int .i64 x.im, .int .i64 x.den] 27)
  have h12 := (h11.step hx h11.lt (by omega)).alloc (.cells #[.int .i64 x.re, .int .i64 x.im, .int .i64 x.den] 27)
  have hB2 : Below w.heap.size w w2 := (BelX.step (BelX.of hB1) hx hB1.size).below (by omega)
  have hz2 := hx.size
  have hT : TD w w2.heap.size x (w2.alloc (.cells #[.int .i64 x.re, .int .i64 x.im, .int .i64 x.den] 27)) := ⟨h02, h12, hr2, FrG.new w2 x _, hB2.alloc hB2.size _, by omega⟩
  clear hu hx hr1 hr2 h01 h11 h02 h12 hB1 hB2
  go_wp2
  go_region_held3 (fun w' => w'.cell? ⟨w2.heap.size, 0, none⟩ = some (.int .i64 x.re) ∧ w'.cell? ⟨w2.heap.size, 1, none⟩ = some (.int .i64 x.im) ∧ w'.cell? ⟨w2.heap.size, 2, none⟩ = some (.int .i64 x.den)) ((refine FrG.three ?_; (repeat' (first | (with_reducible assumption) | (with_reducible exact TD.c (by assumption)) | (with_reducible exact TE.c (by assumption)) | (with_reducible apply FrG.alloc) | (with_reducible apply FrG.drewN) | (with_reducible apply FrG.drew) | ((with_reducible refine FrG.far ?_ ?_ _) <;> (first | omega | (simp; done) | (simp; omega) | skip)))))) (first | (go_at_call 29; (with_reducible refine (td_frac (b5 := w2.heap.size) (x := x) (by (repeat' (first | (with_reducible assumption) | (with_reducible apply TD.alloc) | (with_reducible apply TD.drewN) | (with_reducible apply TD.drew))))).mono ?_); rintro e wd ⟨y, rfl, hE⟩; have hB := hE.B; have hl0 := hE.r0.lt; have hl1 := hE.r1.lt; obtain ⟨r0, r1, r2, rf⟩ := hE.r0; obtain ⟨s0, s1, s2, sf⟩ := hE.r1))
  all_goals (go_wp2; refine bodyPost_ret (v := .tuple #[frv x, frv y]) (by simp [results, Try.results23, go_sem, *]) rfl ⟨_, _, rfl, by (repeat' (first | (with_reducible exact Below.refl _ _) | (with_reducible assumption) | (with_reducible refine Below.setCell ?_ (by first | omega | (simp; done) | (simp; omega)) _) | (with_reducible refine Below.alloc ?_ (by first | omega | (simp; done) | (simp; omega)) _) | (with_reducible refine below_drewN ?_ _) | (with_reducible refine Below.drew ?_)))⟩)
set_option maxRecDepth 100000 in
set_option maxHeartbeats 4000000 in
theorem drawFar_any (A : Option Addr) (len cap : Nat) (w : World) (hby : Bytes A len cap w) :
    Calls Try.prog 14 #[.slice A len cap] w (Two w) := by
  have hB0 : Below w.heap.size w ((w.alloc (.cells #[.int .i64 0, .int .i64 0, .int .i64 0] 27)).alloc (.cells #[.int .i64 0, .int .i64 0, .int .i64 0] 27)) := by (repeat' (first | (with_reducible exact Below.refl _ _) | (with_reducible assumption) | (with_reducible refine Below.setCell ?_ (by first | omega | (simp; done) | (simp; omega)) _) | (with_reducible refine Below.alloc ?_ (by first | omega | (simp; done) | (simp; omega)) _) | (with_reducible refine below_drewN ?_ _) | (with_reducible refine Below.drew ?_)))
  have h00 := (FrG.new w ⟨0, 0, 0⟩ 27).alloc (.cells #[.int .i64 0, .int .i64 0, .int .i64 0] 27)
  have h10 : FrG ((w.alloc (.cells #[.int .i64 0, .int .i64 0, .int .i64 0] 27)).alloc (.cells #[.int .i64 0, .int .i64 0, .int .i64 0] 27)) (w.heap.size + 1) ⟨0, 0, 0⟩ := by simpa using FrG.new (w.alloc (.cells #[.int .i64 0, .int .i64 0, .int .i64 0] 27)) ⟨0, 0, 0⟩ 27
  go_enter Try.func14, Try.ntmps14
  go_wp2_with (go_at_call 23; (with_reducible refine (fracs_any A len cap _ (hby.below hB0)).mono ?_); rintro e w1 ⟨x, y, rfl, hb⟩; refine Hid.out ?_)
  refine Lib.hid ?_
  have h01 := h00.below hb
  have h11 := h10.below hb
  have hB1 : Below w.heap.size w w1 := bstep hB0 hb (by simp; omega)
  have hl0 := h01.lt
  have hl1 := h11.lt
  clear hb h00 h10 hB0
  obtain ⟨r0, r1, r2, rf⟩ := h01
  obtain ⟨s0, s1, s2, sf⟩ := h11
  go_wp2
  exact bodyPost_ret (v := .tuple #[frv x, frv y]) (by simp [results, Try.results14, go_sem, *]) rfl ⟨_, _, rfl, by (repeat' (first | (with_reducible exact Below.refl _ _) | (with_reducible assumption) | (with_reducible refine Below.setCell ?_ (by first | omega | (simp; done) | (simp; omega)) _) | (with_reducible refine Below.alloc ?_ (by first | omega | (simp; done) | (simp; omega)) _) | (with_reducible refine below_drewN ?_ _) | (with_reducible refine Below.drew ?_)))⟩
theorem zeroAlike_t (x r : Nat) (w : World) (hx : FloatKind.f64.format.order x x = some .eq) (hr : floatBits .quo .f64 4607182418800017408 x = some r) (hrr : FloatKind.f64.format.order r r = some .eq) :
    Calls Try.prog 24 #[.float .f64 x, .float .f64 x] w fun e w' => e = .returned (.bool true) ∧ Below w.heap.size w w' := by
  have hn : (some Ordering.eq != some Ordering.eq) = false := by decide
  have he : (some Ordering.eq == some Ordering.eq) = true := by decide
  have o1 : ∀ t W, (binOp .quo t (.float .f64 4607182418800017408) (.float .f64 x)).run Try.prog W = .ok (.float .f64 r) W := fun t W => run_float_arith W .quo t .f64 _ _ _ hr
  go_enter Try.func24, Try.ntmps24
  go_wp2_with (simp only [o1])
  go_ret
  exact ⟨rfl, by (repeat' (first | (with_reducible exact Below.refl _ _) | (with_reducible assumption) | (with_reducible refine Below.setCell ?_ (by first | omega | (simp; done) | (simp; omega)) _) | (with_reducible refine Below.alloc ?_ (by first | omega | (simp; done) | (simp; omega)) _) | (with_reducible refine below_drewN ?_ _) | (with_reducible refine Below.drew ?_)))⟩
/-- What a single number needs to be like itself. -/
structure AlikeOk (x : Nat) : Prop where
  c : floatToFloatBits .f32 x .f64 = some (widen x)
  s : FloatKind.f64.format.order (widen x) (widen x) = some .eq
  q : ∃ r, floatBits .quo .f64 4607182418800017408 (widen x) = some r ∧ FloatKind.f64.format.order r r = some .eq
theorem alikeOk {x : Nat} {K : Int} (h : LoW Ieee.single x K) (hK : K ≤ 1000) (h0 : 0 ≤ K) : AlikeOk x := by
  obtain ⟨h1, h2⟩ := widen_some h hK h0
  exact ⟨h1, order_self h2, quo_one2 h2⟩
theorem floatAlike_t (x : Nat) (w : World) (h : AlikeOk x) :
    Calls Try.prog 15 #[.float .f32 x, .float .f32 x] w fun e w' => e = .returned (.bool true) ∧ Below w.heap.size w w' := by
  obtain ⟨hc, hs, r, hr, hrr⟩ := h
  have o1 : ∀ W, (convert 24 30 (.float .f32 x)).run Try.prog W = .ok (.float .f64 (widen x)) W := fun W => run_convert_float_float W 24 30 .f32 .f64 x _ (by rw [Try.underlying24]; rfl) Try.underlying30 hc
  have HS := Lib.hid hs
  have HR := Lib.hid hr
  have HRR := Lib.hid hrr
  clear hc hs hr hrr
  go_enter Try.func15, Try.ntmps15
  go_wp2_with (first | (go_at_call 24; (with_reducible refine (zeroAlike_t (widen x) r _ HS.out HR.out HRR.out).mono ?_); rintro e w1 ⟨rfl, hb⟩; obtain ⟨hc, hf⟩ := bf hb (w.heap.size) (by first | omega | (simp; done) | (simp; omega)); have hs := hb.size; (try simp only [World.size_alloc, World.size_setCell, World.size_drew, World.heap_drewN] at hs); have hl : w.heap.size ≤ w1.heap.size := (by omega); have hB : Below w.heap.size w w1 := bstep (by (repeat' (first | (with_reducible exact Below.refl _ _) | (with_reducible assumption) | (with_reducible refine Below.setCell ?_ (by first | omega | (simp; done) | (simp; omega)) _) | (with_reducible refine Below.alloc ?_ (by first | omega | (simp; done) | (simp; omega)) _) | (with_reducible refine below_drewN ?_ _) | (with_reducible refine Below.drew ?_)))) hb (by first | omega | (simp; done) | (simp; omega)); clear hs hb) | (simp only [o1]))
  go_ret
  exact ⟨rfl, by (repeat' (first | (with_reducible exact Below.refl _ _) | (with_reducible assumption) | (with_reducible refine Below.setCell ?_ (by first | omega | (simp; done) | (simp; omega)) _) | (with_reducible refine Below.alloc ?_ (by first | omega | (simp; done) | (simp; omega)) _) | (with_reducible refine below_drewN ?_ _) | (with_reducible refine Below.drew ?_)))⟩
theorem far_m (a b : Fr) (x : Nat) (v : Bool) (w : World) (hx : Hid (farV a b = x)) (hv : Hid ((fvalid a && fvalid b) = v)) : Calls Try.prog 8 #[frv a, frv b] w fun e w' => e = .returned (.tuple #[.float .f32 x, .bool v]) ∧ Below w.heap.size w w' := by
  rw [← hx.out, ← hv.out]; exact far_any a b w
theorem sfar_m (a b : Fr) (x : Nat) (v : Bool) (w : World) (hx : Hid (farV a b = x)) (hv : Hid ((fvalid a && fvalid b) = v)) : Calls Try.prog 6 #[frv a, frv b] w fun e w' => e = .returned (.tuple #[.float .f32 x, .bool v]) ∧ Below w.heap.size w w' := by
  rw [← hx.out, ← hv.out]; exact sfar_any a b w
set_option maxRecDepth 100000 in
set_option maxHeartbeats 4000000 in
theorem fnFar_walk (A : Option Addr) (len cap : Nat) (w : World) (hby : Bytes A len cap w) :
    Calls Try.prog 5 #[.slice A len cap] w fun e w' => e = .returned (.bool true) ∧ Below w.heap.size w w' := by
  by_cases hl : len ≤ 1048576
  · have hd : decide ((1048576 : Int) < (len : Int)) = false := by simp; omega
    go_enter Try.func5, Try.ntmps5
    go_wp2_with (go_at_call 14; (with_reducible refine (drawFar_any A len cap _ hby).mono ?_); rintro e w1 ⟨a, b, rfl, hB⟩; refine Hid.out ?_)
    refine Lib.hid ?_
    have hA1 := (FrG.new w1 a 27).alloc (.cells #[.int .i64 b.re, .int .i64 b.im, .int .i64 b.den] 27)
    have hB1 : FrG ((w1.alloc (.cells #[.int .i64 a.re, .int .i64 a.im, .int .i64 a.den] 27)).alloc (.cells #[.int .i64 b.re, .int .i64 b.im, .int .i64 b.den] 27)) (w1.heap.size + 1) b := by simpa using FrG.new (w1.alloc (.cells #[.int .i64 a.re, .int .i64 a.im, .int .i64 a.den] 27)) b 27
    have hz := hB.size
    have hB : Below w.heap.size w ((w1.alloc (.cells #[.int .i64 a.re, .int .i64 a.im, .int .i64 a.den] 27)).alloc (.cells #[.int .i64 b.re, .int .i64 b.im, .int .i64 b.den] 27)) := (hB.alloc hz _).alloc (by simp; omega) _
    obtain ⟨x, hx⟩ : ∃ x, farV a b = x := ⟨_, rfl⟩
    obtain ⟨v, hv⟩ : ∃ v, (fvalid a && fvalid b) = v := ⟨_, rfl⟩
    have hok := alikeOk (hx ▸ farV_lo a b) (by omega) (by omega)
    have HX := Lib.hid hx
    have HV := Lib.hid hv
    have HOK := Lib.hid hok
    clear hx hv hok
    go_wp2_with (go_at_call 8; (with_reducible refine (far_m a b x v _ HX HV).mono ?_); rintro e w2 ⟨rfl, hb⟩; refine Hid.out ?_)
    refine Lib.hid ?_
    have hA1 := hA1.below hb
    have hB1 := hB1.below hb
    have hB : Below w.heap.size w w2 := bstep hB hb hB.size
    clear hb
    obtain ⟨a0, a1, a2, af⟩ := id hA1
    obtain ⟨b0, b1, b2, bf⟩ := id hB1
    go_wp2_with (go_at_call 6; (with_reducible refine (sfar_m a b x v _ HX HV).mono ?_); rintro e w3 ⟨rfl, hb⟩; refine Hid.out ?_)
    refine Lib.hid ?_
    have hA1 := hA1.below hb
    have hB1 := hB1.below hb
    have hB : Below w.heap.size w w3 := bstep hB hb hB.size
    clear hb a0 a1 a2 af b0 b1 b2 bf
    obtain ⟨a0, a1, a2, af⟩ := id hA1
    obtain ⟨b0, b1, b2, bf⟩ := id hB1
    go_wp2_with (go_at_call 15; (with_reducible refine (floatAlike_t x _ HOK.out).mono ?_); rintro e w4 ⟨rfl, hb⟩; refine Hid.out ?_)
    refine Lib.hid ?_
    have hA1 := hA1.below hb
    have hB1 := hB1.below hb
    have hB : Below w.heap.size w w4 := bstep hB hb hB.size
    clear hb a0 a1 a2 af b0 b1 b2 bf
    cases hvv : v
    · go_wp2_with (go_at_call 15; (with_reducible refine (floatAlike_t x _ HOK.out).mono ?_); rintro e w5 ⟨rfl, hb⟩; have hB5 : Below w.heap.size w w5 := bstep hB hb hB.size; clear hb)
      go_ret
      exact ⟨rfl, by (repeat' (first | (with_reducible exact Below.refl _ _) | (with_reducible assumption) | (with_reducible refine Below.setCell ?_ (by first | omega | (simp; done) | (simp; omega)) _) | (with_reducible refine Below.alloc ?_ (by first | omega | (simp; done) | (simp; omega)) _) | (with_reducible refine below_drewN ?_ _) | (with_reducible refine Below.drew ?_)))⟩
    · have hv2 := HV.out
      rw [hvv, Bool.and_eq_true] at hv2
      have hfx : farI a b = x := by
        have := HX.out
        rwa [farV, hv2.1, hv2.2] at this
      have hsx : FloatKind.f32.format.order x x = some .eq := by
        have := order_self (farV_lo a b)
        rwa [HX.out] at this
      have hge : (FloatKind.f32.format.order x 0 == some .gt || FloatKind.f32.format.order x 0 == some .eq) = true := by
        have := far_pos hv2.1 hv2.2
        rwa [hfx] at this
      have h00 : FloatKind.f32.format.order 0 0 = some .eq := by decide +kernel
      have HBA : Hid (farV b a = x) := Lib.hid (by rw [farV, hv2.1, hv2.2]; exact (far_comm hv2.1 hv2.2).trans hfx)
      have HBV : Hid ((fvalid b && fvalid a) = true) := Lib.hid (by rw [hv2.1, hv2.2]; rfl)
      have HAA : Hid (farV a a = 0) := Lib.hid (by rw [farV, hv2.1]; exact far_self hv2.1)
      have HAV : Hid ((fvalid a && fvalid a) = true) := Lib.hid (by rw [hv2.1]; rfl)
      have HSX := Lib.hid hsx
      have HGE := Lib.hid hge
      have H00 := Lib.hid h00
      clear hv2 hfx hsx hge h00 hvv
      obtain ⟨a0, a1, a2, af⟩ := id hA1
      obtain ⟨b0, b1, b2, bf⟩ := id hB1
      go_wp2_with (go_at_call 8; (with_reducible refine (far_m b a x true _ HBA HBV).mono ?_); rintro e w5 ⟨rfl, hb⟩; refine Hid.out ?_)
      refine Lib.hid ?_
      have hA1 := hA1.below hb
      have hB : Below w.heap.size w w5 := bstep hB hb hB.size
      clear hb a0 a1 a2 af b0 b1 b2 bf hB1
      obtain ⟨a0, a1, a2, af⟩ := id hA1
      go_wp2_with (go_at_call 8; (with_reducible refine (far_m a a 0 true _ HAA HAV).mono ?_); rintro e w6 ⟨rfl, hb⟩; refine Hid.out ?_)
      refine Lib.hid ?_
      have hB : Below w.heap.size w w6 := bstep hB hb hB.size
      clear hb a0 a1 a2 af hA1
      have hsx : (FloatKind.f32.format.order x x == some .eq) = true := by rw [HSX.out]; rfl
      have h00 : (FloatKind.f32.format.order 0 0 == some .eq) = true := by rw [H00.out]; rfl
      have hge := HGE.out
      go_wp2
      go_ret
      exact ⟨rfl, by (repeat' (first | (with_reducible exact Below.refl _ _) | (with_reducible assumption) | (with_reducible refine Below.setCell ?_ (by first | omega | (simp; done) | (simp; omega)) _) | (with_reducible refine Below.alloc ?_ (by first | omega | (simp; done) | (simp; omega)) _) | (with_reducible refine below_drewN ?_ _) | (with_reducible refine Below.drew ?_)))⟩
  · have hd : decide ((1048576 : Int) < (len : Int)) = true := by simp; omega
    go_enter Try.func5, Try.ntmps5
    go_wp2
    go_ret
    exact ⟨rfl, by (repeat' (first | (with_reducible exact Below.refl _ _) | (with_reducible assumption) | (with_reducible refine Below.setCell ?_ (by first | omega | (simp; done) | (simp; omega)) _) | (with_reducible refine Below.alloc ?_ (by first | omega | (simp; done) | (simp; omega)) _) | (with_reducible refine below_drewN ?_ _) | (with_reducible refine Below.drew ?_)))⟩
end Go.Proofs.Ytddfpbdmppnkiaa
