/-
  Texts of this claim, joined: Be; Bf; Zn. Nothing is claimed here; the other texts of this claim use it.
-/
import Derived.Test.YtodhbkinbcemnaaGreatDoorPv
import Derived.Test.YtodhbkinbcemnaaGreatDoorQw
import Derived.Test.YtodhbkinbcemnaaGreatDoorPe
import Derived.Deep.WholeRow
import Derived.Deep.Cut
import Derived.Lib.Hide
import Derived.Test.YtodhbkinbcemnaaGreatDoorYb
namespace Go.Proofs.YtodhbkinbcemnaaGreatDoor
set_option linter.unusedSimpArgs false
set_option linter.unusedVariables false
section
open Go.RowKit
/-- The sign of a difference of real fractions. -/
def cmpS (d : Int) : Int := if d < 0 then -1 else if 0 < d then 1 else 0
def cmpI (a b : Fr) : Option Int := if realOk a && realOk b then some (cmpS (a.re * b.den - b.re * a.den)) else none
end
section
open Go.RowKit
attribute [local go_sem ↓] Go.wp_at_zero Go.wp_at_succ
theorem mul_bdC {x y : Int} (hx : -2000000000 ≤ x ∧ x ≤ 2000000000) (hy : 1 ≤ y ∧ y ≤ 2000000000) : -4000000000000000000 ≤ x * y ∧ x * y ≤ 4000000000000000000 := by
  have h1 := Int.mul_le_mul_of_nonneg_right hx.2 (show (0 : Int) ≤ y by omega)
  have h2 := Int.mul_le_mul_of_nonneg_right hx.1 (show (0 : Int) ≤ y by omega)
  omega
set_option maxRecDepth 100000 in
set_option maxHeartbeats 8000000 in
theorem compare_any (a b : Fr) (w : World) :
    Calls Tryz.prog 85 #[frv a, frv b] w fun e w' => e = .returned (.tuple #[.int .i64 ((cmpI a b).getD 0), .bool (cmpI a b).isSome]) ∧ Below w.heap.size w w' := by
  have e0 : ∀ W, Blk W w.heap.size (frc a) 25 → Blk W (w.heap.size + 1) (frc b) 25 → True := fun _ _ _ => trivial
  obtain ⟨W0, hW0, hP, hQ, hB⟩ : ∃ W, W = (w.alloc (.cells #[.int .i64 a.re, .int .i64 a.im, .int .i64 a.den] 25)).alloc (.cells #[.int .i64 b.re, .int .i64 b.im, .int .i64 b.den] 25) ∧ Blk W w.heap.size (frc a) 25 ∧ Blk W (w.heap.size + 1) (frc b) 25 ∧ Below w.heap.size w W := by
    refine ⟨_, rfl, (Below.heap_alloc _ _ _ (by simp)).trans (heap_alloc_last w _), ?_, by exact below_⟩
    have := heap_alloc_last (w.alloc (.cells #[.int .i64 a.re, .int .i64 a.im, .int .i64 a.den] 25)) (.cells #[.int .i64 b.re, .int .i64 b.im, .int .i64 b.den] 25)
    rwa [World.size_alloc] at this
  clear e0
  obtain ⟨x0, x1, x2⟩ := blk_fr0 hP
  cases ha : realOk a
  · have e : cmpI a b = none := by simp [cmpI, ha]
    rw [e]
    have HA := Lib.hid ha
    clear e ha
    go_enter Tryz.func85, Tryz.ntmps85
    go_upto_region 1 with fail
    rw [← hW0]
    clear hW0
    go_wp2_with (first | (go_at_call 59; (with_reducible refine (realOk_any a _).mono ?_); rw [HA.out]; rintro e w1 ⟨rfl, hb⟩; have hB := bstep hB hb hB.size; clear hb))
    go_ret2
    exact ⟨rfl, hB⟩
  cases hb : realOk b
  · have e : cmpI a b = none := by simp [cmpI, hb]
    rw [e]
    have HA := Lib.hid ha
    have HB := Lib.hid hb
    clear e ha hb
    go_enter Tryz.func85, Tryz.ntmps85
    go_upto_region 1 with fail
    rw [← hW0]
    clear hW0
    go_wp2_with (first | (go_at_call 59; (with_reducible refine (realOk_any a _).mono ?_); rw [HA.out]; rintro e w1 ⟨rfl, hb⟩; have hP := (hb.block _ (blk_lt hP)).trans hP; have hQ := (hb.block _ (blk_lt hQ)).trans hQ; have hB := bstep hB hb hB.size; obtain ⟨x0, x1, x2⟩ := blk_fr0 hP; obtain ⟨y0, y1, y2⟩ := blk_fr0 hQ; clear hb) | (go_at_call 59; (with_reducible refine (realOk_any b _).mono ?_); rw [HB.out]; rintro e w2 ⟨rfl, hb⟩; have hP := (hb.block _ (blk_lt hP)).trans hP; have hQ := (hb.block _ (blk_lt hQ)).trans hQ; have hB := bstep hB hb hB.size; obtain ⟨x0, x1, x2⟩ := blk_fr0 hP; obtain ⟨y0, y1, y2⟩ := blk_fr0 hQ; clear hb))
    go_ret2
    exact ⟨rfl, hB⟩
  have e : cmpI a b = some (cmpS (a.re * b.den - b.re * a.den)) := by simp [cmpI, ha, hb]
  rw [e]
  have a1 := fvalid_bd a (real_parts ha).1
  have b1 := fvalid_bd b (real_parts hb).1
  have m1 := mul_bdC a1.1 b1.2.2
  have m2 := mul_bdC b1.1 a1.2.2
  have hw1 : IntKind.i64.wrap (a.re * b.den) = a.re * b.den := IntWalk.i64_in _ (by omega)
  have hw2 : IntKind.i64.wrap (b.re * a.den) = b.re * a.den := IntWalk.i64_in _ (by omega)
  have hw3 : IntKind.i64.wrap (a.re * b.den - b.re * a.den) = a.re * b.den - b.re * a.den := IntWalk.i64_in _ (by omega)
  have hw4 : wrap64 (a.re * b.den - b.re * a.den) = a.re * b.den - b.re * a.den := by unfold wrap64; omega
  have HA := Lib.hid ha
  have HB := Lib.hid hb
  obtain ⟨d, hd⟩ : ∃ d, d = a.re * b.den - b.re * a.den := ⟨_, rfl⟩
  rw [← hd] at hw3 hw4 ⊢
  have HD := Lib.hid hd
  clear e ha hb a1 b1 m1 m2 hd
  go_enter Tryz.func85, Tryz.ntmps85
  go_upto_region 1 with fail
  rw [← hW0]
  clear hW0
  have HW4 := Lib.hid hw4
  clear hw4
  go_upto_region 4 with (first | (go_at_call 59; (with_reducible refine (realOk_any a _).mono ?_); rw [HA.out]; rintro e w1 ⟨rfl, hb⟩; have hP := (hb.block _ (blk_lt hP)).trans hP; have hQ := (hb.block _ (blk_lt hQ)).trans hQ; have hB := bstep hB hb hB.size; obtain ⟨x0, x1, x2⟩ := blk_fr0 hP; obtain ⟨y0, y1, y2⟩ := blk_fr0 hQ; clear hb) | (go_at_call 59; (with_reducible refine (realOk_any b _).mono ?_); rw [HB.out]; rintro e w2 ⟨rfl, hb⟩; have hP := (hb.block _ (blk_lt hP)).trans hP; have hQ := (hb.block _ (blk_lt hQ)).trans hQ; have hB := bstep hB hb hB.size; obtain ⟨x0, x1, x2⟩ := blk_fr0 hP; obtain ⟨y0, y1, y2⟩ := blk_fr0 hQ; clear hb))
  have hw4 := HW4.out
  clear HW4
  rw [← HD.out, hw4]
  clear hw1 hw2 hw3 hw4 HD x0 x1 x2 y0 y1 y2
  by_cases h1 : d < 0
  · have e : cmpS d = -1 := by unfold cmpS; rw [if_pos h1]
    have HE := Lib.hid e
    clear e
    go_wp2
    go_ret2
    exact ⟨by rw [HE.out]; rfl, hB⟩
  by_cases h2 : 0 < d
  · have e : cmpS d = 1 := by unfold cmpS; rw [if_neg h1, if_pos h2]
    have HE := Lib.hid e
    clear e
    go_wp2
    go_ret2
    exact ⟨by rw [HE.out]; rfl, hB⟩
  have e : cmpS d = 0 := by unfold cmpS; rw [if_neg h1, if_neg h2]
  have HE := Lib.hid e
  clear e
  go_wp2
  go_ret2
  exact ⟨by rw [HE.out]; rfl, hB⟩
end
section
open Go.RowKit
attribute [local go_sem ↓] Go.wp_at_zero Go.wp_at_succ
noncomputable def opsSA : List Oper := (regionAt Tryz.f84 3).toList
def rdSA : List Nat := [1, 4, 5]
def vSA (ba bs fb : Nat) (f acc : Fr) (t : Nat) : Value := if t < 19 then nth [undef, ptv ba, undef, undef, ptv bs, ptv fb] t else nth [ptv bs, frv acc, ptv bs, ptv ba, .pointer (some ⟨ba, 6, none⟩), frv f, ptv ba, .pointer (some ⟨ba, 6, none⟩), frv f, frv (vN (timesI f f)), frv (vN (addI acc (vN (timesI f f))))] (t - 19)
theorem lnSA : opsSA.length = 12 ∧ callsTo opsSA 12 = 3 := ⟨by kernel_rfl, by kernel_rfl⟩
theorem kbSA : kb opsSA 1 = 1 := by kernel_rfl
theorem okSA : opsOk opsSA 19 rdSA [] none 0 opsSA = true := by kernel_rfl
set_option maxRecDepth 100000 in
set_option maxHeartbeats 8000000 in
theorem regSA (W0 : World) (ba bs fb : Nat) (f acc : Fr) (bad : Bool) (hbs : bs < W0.heap.size) (hfb : fb < W0.heap.size) (hne : fb ≠ bs) (hA : FAt W0 ba 6 f) (hA1 : ba < W0.heap.size) (hA2 : ba ≠ bs) (hA3 : ba ≠ fb) :
    Obs [] (vSA ba bs fb f acc) opsSA (RKm W0 bs fb (badL bad [(timesI f f).isNone, (addI acc (vN (timesI f f))).isNone]) (fc13 acc (vN (addI acc (vN (timesI f f))))) 25) Tryz.prog 19 0 0 opsSA := by
    have lA : ∀ mm kk w, kk ≤ 1 → RKm W0 bs fb (badL bad [(timesI f f).isNone, (addI acc (vN (timesI f f))).isNone]) (fc13 acc (vN (addI acc (vN (timesI f f))))) 25 mm kk w → (Instr.loadAt 25 (.pointer (some ⟨fb, 0, none⟩))).run Tryz.prog w = .ok (frv acc) w := rk_loadA (cs := frc acc) (fun k' hk' => if_pos (by omega)) Tryz.underlying25 rfl sz_Frac
    refine obs_move (i := 0) rfl rfl rfl rfl ?_
    refine obs_loadK (c := 1) (i := 1) rfl rfl rfl rfl kbSA lA ?_
    refine obs_move (i := 2) rfl rfl rfl rfl ?_
    refine obs_field (i := 3) rfl rfl rfl rfl (fun w => rfl) ?_
    refine obs_index (i := 4) rfl rfl rfl rfl (fun w => by kernel_rfl) ?_
    refine obs_load (i := 5) rfl rfl rfl rfl (rk_loadF hA hA1 hA2 hA3) ?_
    refine obs_field (i := 6) rfl rfl rfl rfl (fun w => rfl) ?_
    refine obs_index (i := 7) rfl rfl rfl rfl (fun w => by kernel_rfl) ?_
    refine obs_load (i := 8) rfl rfl rfl rfl (rk_loadF hA hA1 hA2 hA3) ?_
    refine obs_call (i := 9) (k := 0) rfl rfl Tryz.func37 rfl rfl rfl rfl (rk_call [ptv bs, frv f, frv f] (frv (vN (timesI f f))) hbs hfb hne rfl rfl (fun w h => x_times f f bs w h)) ?_
    refine obs_call (i := 10) (k := 1) rfl rfl Tryz.func45 rfl rfl rfl rfl (rk_call [ptv bs, frv acc, frv (vN (timesI f f))] (frv (vN (addI acc (vN (timesI f f))))) hbs hfb hne rfl rfl (fun w h => x_add acc (vN (timesI f f)) bs w h)) ?_
    refine obs_storeF (i := 11) (k := 2) rfl rfl rfl rfl rfl rfl (rk_store hne rfl rfl (frc_one _) sz_Frac) ?_
    exact obs_nil rfl
noncomputable def opsSB : List Oper := (regionAt Tryz.f84 4).toList
def rdSB : List Nat := [1, 4, 5]
def vSB (ba bs fb : Nat) (f acc : Fr) (t : Nat) : Value := if t < 30 then nth [undef, ptv ba, undef, undef, ptv bs, ptv fb] t else nth [ptv bs, frv acc, ptv bs, ptv ba, .pointer (some ⟨ba, 9, none⟩), frv f, ptv ba, .pointer (some ⟨ba, 9, none⟩), frv f, frv (vN (timesI f f)), frv (vN (addI acc (vN (timesI f f))))] (t - 30)
theorem lnSB : opsSB.length = 12 ∧ callsTo opsSB 12 = 3 := ⟨by kernel_rfl, by kernel_rfl⟩
theorem kbSB : kb opsSB 1 = 1 := by kernel_rfl
theorem okSB : opsOk opsSB 30 rdSB [] none 0 opsSB = true := by kernel_rfl
set_option maxRecDepth 100000 in
set_option maxHeartbeats 8000000 in
theorem regSB (W0 : World) (ba bs fb : Nat) (f acc : Fr) (bad : Bool) (hbs : bs < W0.heap.size) (hfb : fb < W0.heap.size) (hne : fb ≠ bs) (hA : FAt W0 ba 9 f) (hA1 : ba < W0.heap.size) (hA2 : ba ≠ bs) (hA3 : ba ≠ fb) :
    Obs [] (vSB ba bs fb f acc) opsSB (RKm W0 bs fb (badL bad [(timesI f f).isNone, (addI acc (vN (timesI f f))).isNone]) (fc13 acc (vN (addI acc (vN (timesI f f))))) 25) Tryz.prog 30 0 0 opsSB := by
    have lA : ∀ mm kk w, kk ≤ 1 → RKm W0 bs fb (badL bad [(timesI f f).isNone, (addI acc (vN (timesI f f))).isNone]) (fc13 acc (vN (addI acc (vN (timesI f f))))) 25 mm kk w → (Instr.loadAt 25 (.pointer (some ⟨fb, 0, none⟩))).run Tryz.prog w = .ok (frv acc) w := rk_loadA (cs := frc acc) (fun k' hk' => if_pos (by omega)) Tryz.underlying25 rfl sz_Frac
    refine obs_move (i := 0) rfl rfl rfl rfl ?_
    refine obs_loadK (c := 1) (i := 1) rfl rfl rfl rfl kbSB lA ?_
    refine obs_move (i := 2) rfl rfl rfl rfl ?_
    refine obs_field (i := 3) rfl rfl rfl rfl (fun w => rfl) ?_
    refine obs_index (i := 4) rfl rfl rfl rfl (fun w => by kernel_rfl) ?_
    refine obs_load (i := 5) rfl rfl rfl rfl (rk_loadF hA hA1 hA2 hA3) ?_
    refine obs_field (i := 6) rfl rfl rfl rfl (fun w => rfl) ?_
    refine obs_index (i := 7) rfl rfl rfl rfl (fun w => by kernel_rfl) ?_
    refine obs_load (i := 8) rfl rfl rfl rfl (rk_loadF hA hA1 hA2 hA3) ?_
    refine obs_call (i := 9) (k := 0) rfl rfl Tryz.func37 rfl rfl rfl rfl (rk_call [ptv bs, frv f, frv f] (frv (vN (timesI f f))) hbs hfb hne rfl rfl (fun w h => x_times f f bs w h)) ?_
    refine obs_call (i := 10) (k := 1) rfl rfl Tryz.func45 rfl rfl rfl rfl (rk_call [ptv bs, frv acc, frv (vN (timesI f f))] (frv (vN (addI acc (vN (timesI f f))))) hbs hfb hne rfl rfl (fun w h => x_add acc (vN (timesI f f)) bs w h)) ?_
    refine obs_storeF (i := 11) (k := 2) rfl rfl rfl rfl rfl rfl (rk_store hne rfl rfl (frc_one _) sz_Frac) ?_
    exact obs_nil rfl
/-- Blocks kept beside a reckoning of the call's own. -/
structure QT (w : World) (bs : Nat) (bl : List (Nat × Array Value × TypeId)) (bad : Bool) (W : World) : Prop where
  B : Below w.heap.size w W
  s : SumIs W bs bad
  g : ∀ q ∈ bl, w.heap.size ≤ q.1 ∧ q.1 ≠ bs ∧ Blk W q.1 q.2.1 q.2.2
  l : w.heap.size ≤ bs
section
variable {w W W' : World} {bs : Nat} {bl : List (Nat × Array Value × TypeId)} {bad bad' : Bool}
theorem QT.step (h : QT w bs bl bad W) (Y : BelX W.heap.size bs W W') (s : SumIs W' bs bad') : QT w bs bl bad' W' :=
  ⟨h.B.trans ((Y.mono h.B.size).below h.l), s, fun q hq => ⟨(h.g q hq).1, (h.g q hq).2.1, (Y.block q.1 (blk_lt (h.g q hq).2.2) (h.g q hq).2.1).trans (h.g q hq).2.2⟩, h.l⟩
theorem QT.call (h : QT w bs bl bad W) (hb : Below W.heap.size W W') : QT w bs bl bad W' := h.step (BelX.of hb) (h.s.below hb h.s.lt)
theorem QT.at (h : QT w bs bl bad W) {b : Nat} {cs : Array Value} {ty : TypeId} (hq : (b, cs, ty) ∈ bl) : Blk W b cs ty := (h.g _ hq).2.2
theorem QT.stepK {fb k : Nat} {bd : Nat → Bool} {fc : Nat → Array Value} {ty : TypeId} (h : QT w bs bl bad W) (K : RK W bs fb bd fc ty k W') (hfb : w.heap.size ≤ fb) (hq : ∀ q ∈ bl, q.1 ≠ fb) : QT w bs bl (bd k) W' :=
  ⟨h.B.trans ⟨K.os, K.tape, K.output, K.size, fun b h1 => K.block b (by have := h.B.size; omega) (by have := h.l; omega) (by omega)⟩, K.s, fun q h1 => ⟨(h.g q h1).1, (h.g q h1).2.1, (K.block q.1 (blk_lt (h.g q h1).2.2) (h.g q h1).2.1 (hq q h1)).trans (h.g q h1).2.2⟩, h.l⟩
end
theorem xt_n (a b p : Fr) (pn : Bool) (bs : Nat) (w : World) (hs : SumEx w bs) (hp : Hid (vN (timesI a b) = p)) (hn : Hid ((timesI a b).isNone = pn)) :
    Calls Tryz.prog 37 #[.pointer (some ⟨bs, 0, none⟩), frv a, frv b] w fun e w' => e = .returned (frv p) ∧ (∀ c, SumIs w bs c → SumIs w' bs (c || pn)) ∧ BelX w.heap.size bs w w' := by
  rw [← hp.out, ← hn.out]; exact x_times a b bs w hs
/-- The sum of the squares of polarisation. -/
def sqV (m : Mt) : Fr := vN (addI (vN (addI (vN (timesI m.b m.b)) (vN (timesI m.c m.c)))) (vN (timesI m.d m.d)))
def sqB (m : Mt) : Bool := ((((!mreal m || (timesI m.b m.b).isNone) || (timesI m.c m.c).isNone) || (addI (vN (timesI m.b m.b)) (vN (timesI m.c m.c))).isNone) || (timesI m.d m.d).isNone) || (addI (vN (addI (vN (timesI m.b m.b)) (vN (timesI m.c m.c)))) (vN (timesI m.d m.d))).isNone
def sqI (m : Mt) : Option Fr := if sqB m then none else some (sqV m)
set_option maxRecDepth 100000 in
set_option maxHeartbeats 8000000 in
theorem squares_any (m : Mt) (w : World) :
    Calls Tryz.prog 84 #[mtv m] w fun e w' => e = .returned (.tuple #[frv ((sqI m).getD ⟨0, 0, 0⟩), .bool (sqI m).isSome]) ∧ Below w.heap.size w w' := by
  obtain ⟨vm, hvm⟩ : ∃ v, mreal m = v := ⟨_, rfl⟩
  obtain ⟨ac1, hac1⟩ : ∃ v, vN (timesI m.b m.b) = v := ⟨_, rfl⟩
  obtain ⟨n1, hn1⟩ : ∃ v, (timesI m.b m.b).isNone = v := ⟨_, rfl⟩
  obtain ⟨ac2, hac2⟩ : ∃ v, vN (addI ac1 (vN (timesI m.c m.c))) = v := ⟨_, rfl⟩
  obtain ⟨ac3, hac3⟩ : ∃ v, vN (addI ac2 (vN (timesI m.d m.d))) = v := ⟨_, rfl⟩
  obtain ⟨bd2, hbd2⟩ : ∃ v, (((!vm || n1) || (timesI m.c m.c).isNone) || (addI ac1 (vN (timesI m.c m.c))).isNone) = v := ⟨_, rfl⟩
  obtain ⟨bd3, hbd3⟩ : ∃ v, ((bd2 || (timesI m.d m.d).isNone) || (addI ac2 (vN (timesI m.d m.d))).isNone) = v := ⟨_, rfl⟩
  have hres : sqI m = if bd3 then none else some ac3 := by
    unfold sqI sqB sqV
    rw [hac1, hac2, hac3, hvm, hn1, hbd2, hbd3]
  have HM := Lib.hid hvm
  have HA1 := Lib.hid hac1
  have HN1 := Lib.hid hn1
  have HA2 := Lib.hid hac2
  have HA3 := Lib.hid hac3
  have HB2 := Lib.hid hbd2
  have HB3 := Lib.hid hbd3
  have HR := Lib.hid hres
  clear hvm hac1 hn1 hac2 hac3 hbd2 hbd3 hres
  obtain ⟨bl, hbl⟩ : ∃ x, x = [(w.heap.size, mtc m, 28), (w.heap.size + 1, #[.int .i64 0, .int .i64 0, .int .i64 0], 25)] := ⟨_, rfl⟩
  obtain ⟨W0, hW0, hQ1⟩ : ∃ W, W = (w.alloc (.cells #[.int .i64 m.a.re, .int .i64 m.a.im, .int .i64 m.a.den, .int .i64 m.b.re, .int .i64 m.b.im, .int .i64 m.b.den, .int .i64 m.c.re, .int .i64 m.c.im, .int .i64 m.c.den, .int .i64 m.d.re, .int .i64 m.d.im, .int .i64 m.d.den] 28)).alloc (.cells #[.int .i64 0, .int .i64 0, .int .i64 0] 25) ∧ QT w (w.heap.size + 1 + 1) bl false (W.alloc (.cells #[.bool false] 64)) := by
    refine ⟨_, rfl, ⟨by exact below_, SumIs.new' (by simp), ?_, by omega⟩⟩
    rw [hbl]
    intro q hq
    simp only [List.mem_cons, List.not_mem_nil, or_false] at hq
    rcases hq with rfl | rfl
    · exact ⟨Nat.le_refl _, by show w.heap.size ≠ w.heap.size + 1 + 1; omega, (Below.heap_alloc _ _ _ (by simp; omega)).trans ((Below.heap_alloc _ _ _ (by simp)).trans (heap_alloc_last w _))⟩
    · refine ⟨by show w.heap.size ≤ w.heap.size + 1; omega, by show w.heap.size + 1 ≠ w.heap.size + 1 + 1; omega, (Below.heap_alloc _ _ _ (by simp)).trans ?_⟩
      have := heap_alloc_last (w.alloc (.cells #[.int .i64 m.a.re, .int .i64 m.a.im, .int .i64 m.a.den, .int .i64 m.b.re, .int .i64 m.b.im, .int .i64 m.b.den, .int .i64 m.c.re, .int .i64 m.c.im, .int .i64 m.c.den, .int .i64 m.d.re, .int .i64 m.d.im, .int .i64 m.d.den] 28)) (.cells #[.int .i64 0, .int .i64 0, .int .i64 0] 25)
      rwa [World.size_alloc] at this
  have hzs : W0.heap.size = w.heap.size + 1 + 1 := by rw [hW0]; simp
  go_enter Tryz.func84, Tryz.ntmps84
  go_upto_region 1 with fail
  rw [← hW0]
  clear hW0
  obtain ⟨p0, p1, p2, p3, p4, p5, p6, p7, p8, p9, p10, p11⟩ := blk_m (hQ1.at (b := w.heap.size) (cs := mtc m) (ty := 28) (by rw [hbl]; simp))
  go_upto_region 2 with (first | (go_at_call 19; (with_reducible refine (stokes_any m _).mono ?_); rw [HM.out]; rintro e w2 ⟨rfl, hb⟩; have hQ2 := hQ1.call hb; clear hb) | (go_at_call 26; (with_reducible refine (x_need vm (w.heap.size + 1 + 1) _ (SumEx.of hQ2.s)).mono ?_); rintro e w3 ⟨rfl, hu, hx⟩; have hQ3 := hQ2.step hx (hu _ hQ2.s); clear hu hx hQ2))
  clear p0 p1 p2 p3 p4 p5 p6 p7 p8 p9 p10 p11 hQ1
  obtain ⟨p0, p1, p2, p3, p4, p5, p6, p7, p8, p9, p10, p11⟩ := blk_m (hQ3.at (b := w.heap.size) (cs := mtc m) (ty := 28) (by rw [hbl]; simp))
  go_upto_region 3 with (first | (go_at_call 37; (with_reducible refine (xt_n m.b m.b ac1 n1 (w.heap.size + 1 + 1) _ (SumEx.of hQ3.s) HA1 HN1).mono ?_); rintro e w4 ⟨rfl, hu, hx⟩))
  clear p0 p1 p2 p3 p4 p5 p6 p7 p8 p9 p10 p11
  have hfz : w.heap.size + 1 + 1 < w4.heap.size := by have := hQ3.s.lt; have := hx.size; omega
  obtain ⟨fb, hfb⟩ : ∃ b, b = w4.heap.size := ⟨_, rfl⟩
  obtain ⟨wo, hwo, hQ, hF⟩ : ∃ W, W = w4.alloc (.cells #[.int .i64 ac1.re, .int .i64 ac1.im, .int .i64 ac1.den] 25) ∧ QT w (w.heap.size + 1 + 1) bl (!vm || n1) W ∧ Blk W fb (frc ac1) 25 := by
    have h4 := hQ3.step hx (hu _ hQ3.s)
    refine ⟨_, rfl, ?_, by rw [hfb]; exact heap_alloc_last w4 _⟩
    have h5 := h4.call ((Below.refl _ _).alloc (Nat.le_refl _) (.cells #[.int .i64 ac1.re, .int .i64 ac1.im, .int .i64 ac1.den] 25))
    simpa using h5
  rw [← hwo, ← hfb]
  have hblk : ∀ q ∈ bl, q.1 < fb := by
    rw [hbl]
    intro q hq
    simp only [List.mem_cons, List.not_mem_nil, or_false] at hq
    rcases hq with rfl | rfl <;> (simp only; omega)
  rw [← hfb] at hfz
  clear hwo hfb hu hx hQ3 hzs
  go_upto_region 3 with fail
  go_cut [] from 19 to 29 (fun W => QT w (w.heap.size + 1 + 1) bl (((!vm || n1) || (timesI m.c m.c).isNone) || (addI ac1 (vN (timesI m.c m.c))).isNone) W ∧ Blk W fb (frc (vN (addI ac1 (vN (timesI m.c m.c))))) 25)
  case first =>
    rename_i J K' hJ hK
    have hA := hQ.at (b := w.heap.size) (cs := mtc m) (ty := 28) (by rw [hbl]; simp)
    refine region_sim (als := []) (rd := rdSA) (V := vSA w.heap.size (w.heap.size + 1 + 1) fb m.c ac1) (J := RKm wo (w.heap.size + 1 + 1) fb (badL ((!vm || n1)) [(timesI m.c m.c).isNone, (addI ac1 (vN (timesI m.c m.c))).isNone]) (fc13 ac1 (vN (addI ac1 (vN (timesI m.c m.c))))) 25) (base := 19) (L := opsSA) mixO (by kernel_rfl) (by intro t h; simp [ixOf] at h) okSA (regSA wo w.heap.size (w.heap.size + 1 + 1) fb m.c ac1 ((!vm || n1)) hQ.s.lt (blk_lt hF) (by omega) (blk_get (xs := row4 m) hA (i := 2) (show 2 < 4 by decide)) (blk_lt hA) (by omega) (by omega)) ?_ (by rw [lnSA.1]; simp) ?_ (rk_start hQ.s hF)
    · intro mm a' W hJW hmade hsz hkeep hlow hup hal
      rw [lnSA.1, lnSA.2] at hJW
      rw [lnSA.1] at hkeep
      have kp := hkeep.2.2
      have hRK : RK wo (w.heap.size + 1 + 1) fb _ _ 25 3 W := hJW
      have hQn := hQ.stepK hRK (by omega) (fun q hq => by have := hblk q hq; omega)
      exact hK _ _ (Met.intro (hJ _ _ ⟨a'.eval (.tmp 19), a'.eval (.tmp 20), a'.eval (.tmp 21), a'.eval (.tmp 22), a'.eval (.tmp 23), a'.eval (.tmp 24), a'.eval (.tmp 25), a'.eval (.tmp 26), a'.eval (.tmp 27), a'.eval (.tmp 28), a'.eval (.tmp 29), ⟨hQn, hRK.c⟩, act_ext3 46 _ rfl hkeep.2.1 hkeep.1 (fun t ht => match t, ht with | 0, _ => (kp 0 (by decide)) | 1, _ => (kp 1 (by decide)) | 2, _ => (kp 2 (by decide)) | 3, _ => (kp 3 (by decide)) | 4, _ => (kp 4 (by decide)) | 5, _ => (kp 5 (by decide)) | 6, _ => (kp 6 (by decide)) | 7, _ => (kp 7 (by decide)) | 8, _ => (kp 8 (by decide)) | 9, _ => (kp 9 (by decide)) | 10, _ => (kp 10 (by decide)) | 11, _ => (kp 11 (by decide)) | 12, _ => (kp 12 (by decide)) | 13, _ => (kp 13 (by decide)) | 14, _ => (kp 14 (by decide)) | 15, _ => (kp 15 (by decide)) | 16, _ => (kp 16 (by decide)) | 17, _ => (kp 17 (by decide)) | 18, _ => (kp 18 (by decide)) | 19, _ => rfl | 20, _ => rfl | 21, _ => rfl | 22, _ => rfl | 23, _ => rfl | 24, _ => rfl | 25, _ => rfl | 26, _ => rfl | 27, _ => rfl | 28, _ => rfl | 29, _ => rfl | 30, _ => (kp 30 (.inr (.inr ⟨by decide, by kernel_rfl⟩))) | 31, _ => (kp 31 (by decide)) | 32, _ => (kp 32 (by decide)) | 33, _ => (kp 33 (by decide)) | 34, _ => (kp 34 (by decide)) | 35, _ => (kp 35 (by decide)) | 36, _ => (kp 36 (by decide)) | 37, _ => (kp 37 (by decide)) | 38, _ => (kp 38 (by decide)) | 39, _ => (kp 39 (by decide)) | 40, _ => (kp 40 (by decide)) | 41, _ => (kp 41 (by decide)) | 42, _ => (kp 42 (by decide)) | 43, _ => (kp 43 (by decide)) | 44, _ => (kp 44 (by decide)) | 45, _ => (kp 45 (by decide)) | n + 46, h => absurd h (by omega))⟩))
    · intro t ht
      simp only [rdSA, List.mem_cons, List.not_mem_nil, or_false] at ht
      rcases ht with rfl | rfl | rfl <;> rfl
  clear hQ hF wo
  rename World => wo
  obtain ⟨hQ, hF⟩ := hcut
  rw [HB2.out] at hQ
  rw [HA2.out] at hF
  go_upto_region 4 with fail
  go_cut [] from 30 to 40 (fun W => QT w (w.heap.size + 1 + 1) bl ((bd2 || (timesI m.d m.d).isNone) || (addI ac2 (vN (timesI m.d m.d))).isNone) W ∧ Blk W fb (frc (vN (addI ac2 (vN (timesI m.d m.d))))) 25)
  case first =>
    rename_i J K' hJ hK
    have hA := hQ.at (b := w.heap.size) (cs := mtc m) (ty := 28) (by rw [hbl]; simp)
    refine region_sim (als := []) (rd := rdSB) (V := vSB w.heap.size (w.heap.size + 1 + 1) fb m.d ac2) (J := RKm wo (w.heap.size + 1 + 1) fb (badL (bd2) [(timesI m.d m.d).isNone, (addI ac2 (vN (timesI m.d m.d))).isNone]) (fc13 ac2 (vN (addI ac2 (vN (timesI m.d m.d))))) 25) (base := 30) (L := opsSB) mixO (by kernel_rfl) (by intro t h; simp [ixOf] at h) okSB (regSB wo w.heap.size (w.heap.size + 1 + 1) fb m.d ac2 (bd2) hQ.s.lt (blk_lt hF) (by omega) (blk_get (xs := row4 m) hA (i := 3) (show 3 < 4 by decide)) (blk_lt hA) (by omega) (by omega)) ?_ (by rw [lnSB.1]; simp) ?_ (rk_start hQ.s hF)
    · intro mm a' W hJW hmade hsz hkeep hlow hup hal
      rw [lnSB.1, lnSB.2] at hJW
      rw [lnSB.1] at hkeep
      have kp := hkeep.2.2
      have hRK : RK wo (w.heap.size + 1 + 1) fb _ _ 25 3 W := hJW
      have hQn := hQ.stepK hRK (by omega) (fun q hq => by have := hblk q hq; omega)
      exact hK _ _ (Met.intro (hJ _ _ ⟨a'.eval (.tmp 30), a'.eval (.tmp 31), a'.eval (.tmp 32), a'.eval (.tmp 33), a'.eval (.tmp 34), a'.eval (.tmp 35), a'.eval (.tmp 36), a'.eval (.tmp 37), a'.eval (.tmp 38), a'.eval (.tmp 39), a'.eval (.tmp 40), ⟨hQn, hRK.c⟩, act_ext3 46 _ rfl hkeep.2.1 hkeep.1 (fun t ht => match t, ht with | 0, _ => (kp 0 (by decide)) | 1, _ => (kp 1 (by decide)) | 2, _ => (kp 2 (by decide)) | 3, _ => (kp 3 (by decide)) | 4, _ => (kp 4 (by decide)) | 5, _ => (kp 5 (by decide)) | 6, _ => (kp 6 (by decide)) | 7, _ => (kp 7 (by decide)) | 8, _ => (kp 8 (by decide)) | 9, _ => (kp 9 (by decide)) | 10, _ => (kp 10 (by decide)) | 11, _ => (kp 11 (by decide)) | 12, _ => (kp 12 (by decide)) | 13, _ => (kp 13 (by decide)) | 14, _ => (kp 14 (by decide)) | 15, _ => (kp 15 (by decide)) | 16, _ => (kp 16 (by decide)) | 17, _ => (kp 17 (by decide)) | 18, _ => (kp 18 (by decide)) | 19, _ => (kp 19 (by decide)) | 20, _ => (kp 20 (by decide)) | 21, _ => (kp 21 (by decide)) | 22, _ => (kp 22 (by decide)) | 23, _ => (kp 23 (by decide)) | 24, _ => (kp 24 (by decide)) | 25, _ => (kp 25 (by decide)) | 26, _ => (kp 26 (by decide)) | 27, _ => (kp 27 (by decide)) | 28, _ => (kp 28 (by decide)) | 29, _ => (kp 29 (by decide)) | 30, _ => rfl | 31, _ => rfl | 32, _ => rfl | 33, _ => rfl | 34, _ => rfl | 35, _ => rfl | 36, _ => rfl | 37, _ => rfl | 38, _ => rfl | 39, _ => rfl | 40, _ => rfl | 41, _ => (kp 41 (.inr (.inr ⟨by decide, by kernel_rfl⟩))) | 42, _ => (kp 42 (by decide)) | 43, _ => (kp 43 (by decide)) | 44, _ => (kp 44 (by decide)) | 45, _ => (kp 45 (by decide)) | n + 46, h => absurd h (by omega))⟩))
    · intro t ht
      simp only [rdSB, List.mem_cons, List.not_mem_nil, or_false] at ht
      rcases ht with rfl | rfl | rfl <;> rfl
  clear hQ hF wo
  rename World => wo
  obtain ⟨hQ, hF⟩ := hcut
  rw [HB3.out] at hQ
  rw [HA3.out] at hF
  obtain ⟨f0, f1, f2⟩ := blk_fr0 hF
  have hz0 := hQ.at (b := w.heap.size + 1) (cs := #[.int .i64 0, .int .i64 0, .int .i64 0]) (ty := 25) (by rw [hbl]; simp)
  have hlr := blk_lt hz0
  have hlf := blk_lt hF
  go_upto_region 6 with (first | (go_at_call 86; (with_reducible refine (got_frac ac3 (w.heap.size + 1 + 1) _ (SumEx.of hQ.s)).mono ?_); rintro e w7 ⟨bb, hbb, rfl, hb⟩; obtain rfl := hbb.uniq hQ.s; have hz7 := (hb.block _ hlr).trans hz0; have hB7 : Below w.heap.size w w7 := bstep hQ.B hb hQ.B.size; obtain ⟨r0, r1, r2⟩ := blk_get (xs := [⟨0, 0, 0⟩]) hz7 (i := 0) (show 0 < 1 by decide); have r3 := blk_free hz7; simp only [Nat.zero_mul, Nat.zero_add] at r0 r1 r2; clear hb hbb))
  have r0 : w7.cell? ⟨w.heap.size + 1, 0, none⟩ = some (.int .i64 0) := r0
  have r1 : w7.cell? ⟨w.heap.size + 1, 1, none⟩ = some (.int .i64 0) := r1
  have r2 : w7.cell? ⟨w.heap.size + 1, 2, none⟩ = some (.int .i64 0) := r2
  clear hQ hF hz7 hz0 f0 f1 f2
  cases hbb : bb
  · have hs : sqI m = some ac3 := by rw [HR.out, hbb]; rfl
    rw [hs]
    clear hs HR HB3 hbb
    go_wp2
    exact bodyPost_ret (v := .tuple #[frv ac3, .bool true]) (by simp [results, Tryz.results84, gotF, go_sem, *]) rfl ⟨rfl, by exact below_⟩
  · have hs : sqI m = none := by rw [HR.out, hbb]; rfl
    rw [hs]
    clear hs HR HB3 hbb
    go_wp2
    exact bodyPost_ret (v := .tuple #[frv ⟨0, 0, 0⟩, .bool false]) (by simp [results, Tryz.results84, gotF, go_sem, *]) rfl ⟨rfl, by exact below_⟩
/-- What the square of the first number has above the squares of polarisation: a sign. -/
def exI (m : Mt) : Option Int := (sqI m).bind fun q => (timesI m.a m.a).bind fun p => cmpI p q
def liI (m : Mt) : Bool := (exI m).isSome && (decide (0 ≤ (exI m).getD 0) && decide (0 ≤ m.a.re))
theorem squares_m (m : Mt) (q : Fr) (ok : Bool) (w : World) (e : Hid ((sqI m).getD ⟨0, 0, 0⟩ = q ∧ (sqI m).isSome = ok)) :
    Calls Tryz.prog 84 #[mtv m] w fun e w' => e = .returned (.tuple #[frv q, .bool ok]) ∧ Below w.heap.size w w' := by
  rw [← e.out.1, ← e.out.2]; exact squares_any m w
theorem ti_n (a b mv : Fr) (mo : Bool) (w : World) (e : Hid ((timesI a b).getD ⟨0, 0, 0⟩ = mv ∧ (timesI a b).isSome = mo)) : Calls Tryz.prog 77 #[frv a, frv b] w fun e w' => e = .returned (.tuple #[frv mv, .bool mo]) ∧ Below w.heap.size w w' := by
  rw [← e.out.1, ← e.out.2]; exact times_any a b w
theorem compare_m (a b : Fr) (n : Int) (ok : Bool) (w : World) (e : Hid ((cmpI a b).getD 0 = n ∧ (cmpI a b).isSome = ok)) :
    Calls Tryz.prog 85 #[frv a, frv b] w fun e w' => e = .returned (.tuple #[.int .i64 n, .bool ok]) ∧ Below w.heap.size w w' := by
  rw [← e.out.1, ← e.out.2]; exact compare_any a b w
set_option maxRecDepth 100000 in
set_option maxHeartbeats 8000000 in
theorem excess_any (m : Mt) (w : World) :
    Calls Tryz.prog 52 #[mtv m] w fun e w' => e = .returned (.tuple #[.int .i64 ((exI m).getD 0), .bool (exI m).isSome]) ∧ Below w.heap.size w w' := by
  obtain ⟨q, qo, hq⟩ : ∃ q qo, (sqI m).getD ⟨0, 0, 0⟩ = q ∧ (sqI m).isSome = qo := ⟨_, _, rfl, rfl⟩
  obtain ⟨p, po, hp⟩ : ∃ p po, (timesI m.a m.a).getD ⟨0, 0, 0⟩ = p ∧ (timesI m.a m.a).isSome = po := ⟨_, _, rfl, rfl⟩
  obtain ⟨n, no, hn⟩ : ∃ n no, (cmpI p q).getD 0 = n ∧ (cmpI p q).isSome = no := ⟨_, _, rfl, rfl⟩
  have hres : exI m = if qo && po && no then some n else none := by
    unfold exI
    obtain ⟨q1, q2⟩ := hq
    obtain ⟨p1, p2⟩ := hp
    obtain ⟨n1, n2⟩ := hn
    cases hs : sqI m with
    | none => rw [hs] at q2; rw [show qo = false from q2.symm]; rfl
    | some x =>
      rw [hs] at q1 q2
      simp at q1 q2
      subst q1 q2
      cases ht : timesI m.a m.a with
      | none => rw [ht] at p2; rw [show po = false from p2.symm]; rfl
      | some y =>
        rw [ht] at p1 p2
        simp at p1 p2
        subst p1 p2
        cases hc : cmpI y x with
        | none => rw [hc] at n2; rw [show no = false from n2.symm]; simp [hc]
        | some z => rw [hc] at n1 n2; simp at n1 n2; simp [← n1, ← n2, hc]
  have HQ := Lib.hid hq
  have HP := Lib.hid hp
  have HN := Lib.hid hn
  have HR := Lib.hid hres
  clear hq hp hn hres
  obtain ⟨W0, hW0, hM, hB⟩ : ∃ W, W = w.alloc (.cells #[.int .i64 m.a.re, .int .i64 m.a.im, .int .i64 m.a.den, .int .i64 m.b.re, .int .i64 m.b.im, .int .i64 m.b.den, .int .i64 m.c.re, .int .i64 m.c.im, .int .i64 m.c.den, .int .i64 m.d.re, .int .i64 m.d.im, .int .i64 m.d.den] 28) ∧ Blk W w.heap.size (mtc m) 28 ∧ Below w.heap.size w W := ⟨_, rfl, heap_alloc_last w _, by exact below_⟩
  go_enter Tryz.func52, Tryz.ntmps52
  go_upto_region 1 with fail
  rw [← hW0]
  clear hW0
  obtain ⟨p0, p1, p2, p3, p4, p5, p6, p7, p8, p9, p10, p11⟩ := blk_m hM
  go_upto_region 2 with (first | (go_at_call 84; (with_reducible refine (squares_m m q qo _ HQ).mono ?_); rintro e w2 ⟨rfl, hb⟩))
  obtain ⟨bq, hbq⟩ : ∃ b, b = w2.heap.size := ⟨_, rfl⟩
  obtain ⟨W2, hW2, hM2, hB2, hQ2⟩ : ∃ W, W = w2.alloc (.cells #[.int .i64 q.re, .int .i64 q.im, .int .i64 q.den] 25) ∧ Blk W w.heap.size (mtc m) 28 ∧ Below w.heap.size w W ∧ Blk W bq (frc q) 25 :=
    ⟨_, rfl, (Below.heap_alloc _ _ _ (by have := hb.size; have := blk_lt hM; omega)).trans ((hb.block _ (blk_lt hM)).trans hM), (bstep hB hb hB.size).alloc (by have := hb.size; have := hB.size; omega) _, by rw [hbq]; exact heap_alloc_last w2 _⟩
  rw [← hW2, ← hbq]
  clear hW2 hbq hb hM hB p0 p1 p2 p3 p4 p5 p6 p7 p8 p9 p10 p11
  obtain ⟨p0, p1, p2, p3, p4, p5, p6, p7, p8, p9, p10, p11⟩ := blk_m hM2
  go_upto_region 3 with (first | (go_at_call 77; (with_reducible refine (ti_n m.a m.a p po _ HP).mono ?_); rintro e w3 ⟨rfl, hb⟩))
  obtain ⟨bp, hbp⟩ : ∃ b, b = w3.heap.size := ⟨_, rfl⟩
  obtain ⟨W3, hW3, hP3, hB3, hQ3⟩ : ∃ W, W = w3.alloc (.cells #[.int .i64 p.re, .int .i64 p.im, .int .i64 p.den] 25) ∧ Blk W bp (frc p) 25 ∧ Below w.heap.size w W ∧ Blk W bq (frc q) 25 :=
    ⟨_, rfl, by rw [hbp]; exact heap_alloc_last w3 _, (bstep hB2 hb hB2.size).alloc (by have := hb.size; have := hB2.size; omega) _, (Below.heap_alloc _ _ _ (by have := hb.size; have := blk_lt hQ2; omega)).trans ((hb.block _ (blk_lt hQ2)).trans hQ2)⟩
  rw [← hW3, ← hbp]
  clear hW3 hbp hb hM2 hB2 hQ2 p0 p1 p2 p3 p4 p5 p6 p7 p8 p9 p10 p11
  obtain ⟨x0, x1, x2⟩ := blk_fr0 hP3
  obtain ⟨y0, y1, y2⟩ := blk_fr0 hQ3
  cases h1 : qo
  · have hs : exI m = none := by rw [HR.out, h1]; rfl
    have HS := Lib.hid hs
    clear hs HR HQ h1
    go_wp2
    go_ret2
    exact ⟨by rw [HS.out]; rfl, hB3⟩
  cases h2 : po
  · have hs : exI m = none := by rw [HR.out, h1, h2]; rfl
    have HS := Lib.hid hs
    clear hs HR HQ HP h1 h2
    go_wp2
    go_ret2
    exact ⟨by rw [HS.out]; rfl, hB3⟩
  have hs : exI m = if no then some n else none := by rw [HR.out, h1, h2]; rfl
  have HS := Lib.hid hs
  clear hs HR HQ HP h1 h2
  go_wp2_with (first | (go_at_call 85; (with_reducible refine (compare_m p q n no _ HN).mono ?_); rintro e w4 ⟨rfl, hb⟩; have hB4 := bstep hB3 hb hB3.size; clear hb))
  go_ret2
  refine ⟨?_, hB4⟩
  rw [HS.out]
  obtain ⟨n1, n2⟩ := HN.out
  cases hno : no
  · rw [hno] at n2
    have : cmpI p q = none := by simpa using n2
    rw [this] at n1
    rw [← n1]; rfl
  · rfl
theorem excess_m (m : Mt) (n : Int) (ok : Bool) (w : World) (e : Hid ((exI m).getD 0 = n ∧ (exI m).isSome = ok)) :
    Calls Tryz.prog 52 #[mtv m] w fun e w' => e = .returned (.tuple #[.int .i64 n, .bool ok]) ∧ Below w.heap.size w w' := by
  rw [← e.out.1, ← e.out.2]; exact excess_any m w
set_option maxRecDepth 100000 in
set_option maxHeartbeats 8000000 in
theorem light_any (m : Mt) (w : World) :
    Calls Tryz.prog 14 #[mtv m] w fun e w' => e = .returned (.bool (liI m)) ∧ Below w.heap.size w w' := by
  obtain ⟨n, no, hn⟩ : ∃ n no, (exI m).getD 0 = n ∧ (exI m).isSome = no := ⟨_, _, rfl, rfl⟩
  have hres : liI m = (no && (decide (0 ≤ n) && decide (0 ≤ m.a.re))) := by unfold liI; rw [hn.1, hn.2]
  rw [hres]
  have HN := Lib.hid hn
  clear hn hres
  obtain ⟨W0, hW0, hM, hB⟩ : ∃ W, W = w.alloc (.cells #[.int .i64 m.a.re, .int .i64 m.a.im, .int .i64 m.a.den, .int .i64 m.b.re, .int .i64 m.b.im, .int .i64 m.b.den, .int .i64 m.c.re, .int .i64 m.c.im, .int .i64 m.c.den, .int .i64 m.d.re, .int .i64 m.d.im, .int .i64 m.d.den] 28) ∧ Blk W w.heap.size (mtc m) 28 ∧ Below w.heap.size w W := ⟨_, rfl, heap_alloc_last w _, by exact below_⟩
  go_enter Tryz.func14, Tryz.ntmps14
  go_upto_region 1 with fail
  rw [← hW0]
  clear hW0
  obtain ⟨p0, p1, p2, p3, p4, p5, p6, p7, p8, p9, p10, p11⟩ := blk_m hM
  go_upto_region 2 with (first | (go_at_call 52; (with_reducible refine (excess_m m n no _ HN).mono ?_); rintro e w2 ⟨rfl, hb⟩; have hM2 := (hb.block _ (blk_lt hM)).trans hM; have hB2 : Below w.heap.size w w2 := bstep hB hb hB.size; clear hb))
  clear p0 p1 p2 p3 p4 p5 p6 p7 p8 p9 p10 p11
  obtain ⟨p0, p1, p2, p3, p4, p5, p6, p7, p8, p9, p10, p11⟩ := blk_m hM2
  cases no
  · go_wp2
    go_ret
    exact ⟨rfl, hB2⟩
  by_cases h1 : 0 ≤ n
  · have hd : decide (0 ≤ n) = true := by simpa using h1
    have HD := Lib.hid hd
    clear hd
    go_wp2
    go_ret
    exact ⟨by rw [HD.out]; rfl, hB2⟩
  · have hd : decide (0 ≤ n) = false := by simpa using h1
    have HD := Lib.hid hd
    clear hd
    go_wp2
    go_ret
    exact ⟨by rw [HD.out]; rfl, hB2⟩
theorem isSome_of {o : Option Fr} (h : o.isNone = false) : o = some (vN o) := by
  cases o with
  | none => cases h
  | some x => rfl
theorem rat_cross {x y c d : Rat} (hc : 0 < c) (hd : 0 < d) (h : x * d ≤ y * c) : x / c ≤ y / d := by
  have i5 := Rat.inv_pos.2 hd
  have i6 := Rat.inv_pos.2 hc
  have j5 := Rat.mul_inv_cancel d (by grind)
  have j6 := Rat.mul_inv_cancel c (by grind)
  have k := Rat.mul_nonneg (Rat.mul_nonneg (show (0 : Rat) ≤ y * c - x * d by grind) (Rat.le_of_lt i5)) (Rat.le_of_lt i6)
  rw [Rat.div_def, Rat.div_def]
  generalize d⁻¹ = u at *
  generalize c⁻¹ = v at *
  have e : (y * c - x * d) * u * v = y * u * (c * v) - x * v * (d * u) := by grind
  rw [j5, j6, Rat.mul_one, Rat.mul_one] at e
  grind
/-- What light is, as rational numbers. -/
theorem light_q {m : Mt} (h : liI m = true) : mreal m = true ∧ 0 ≤ qr m.a ∧ qr m.b * qr m.b + qr m.c * qr m.c + qr m.d * qr m.d ≤ qr m.a * qr m.a := by
  unfold liI exI at h
  cases hs : sqI m with
  | none => rw [hs] at h; cases h
  | some q =>
  rw [hs, Option.bind_some] at h
  cases ht : timesI m.a m.a with
  | none => rw [ht] at h; cases h
  | some p =>
  rw [ht, Option.bind_some] at h
  simp only [Bool.and_eq_true, decide_eq_true_eq] at h
  obtain ⟨h1, h2, h3⟩ := h
  unfold sqI at hs
  split at hs
  · cases hs
  · rename_i hb
    obtain rfl := Option.some.inj hs
    unfold sqB at hb
    simp only [Bool.or_eq_true, not_or, Bool.not_eq_true, Bool.not_eq_false'] at hb
    obtain ⟨⟨⟨⟨⟨hm, e1⟩, e2⟩, e3⟩, e4⟩, e5⟩ := hb
    have hm' := hm
    simp only [mreal, Bool.and_eq_true] at hm'
    obtain ⟨ra, rb, rc, rd⟩ := hm'
    obtain ⟨r1, q1⟩ := q_times rb rb (isSome_of e1)
    obtain ⟨r2, q2⟩ := q_times rc rc (isSome_of e2)
    obtain ⟨r3, q3⟩ := q_add r1 r2 (isSome_of e3)
    obtain ⟨r4, q4⟩ := q_times rd rd (isSome_of e4)
    obtain ⟨r5, q5⟩ := q_add r3 r4 (isSome_of e5)
    obtain ⟨rp, qp⟩ := q_times ra ra ht
    have dp := (real_parts rp).2.2
    have dq := (real_parts r5).2.2
    have da := (real_parts ra).2.2
    refine ⟨hm, ?_, ?_⟩
    · unfold qr
      have h0 : (0 : Rat) ≤ (m.a.re : Rat) := by exact_mod_cast h3
      have h4 : (0 : Rat) < (m.a.den : Rat) := by exact_mod_cast (show (0 : Int) < m.a.den by omega)
      rw [Rat.div_def]
      exact Rat.mul_nonneg h0 (Rat.le_of_lt (Rat.inv_pos.2 h4))
    · have hle : (sqV m).re * p.den ≤ p.re * (sqV m).den := by
        unfold cmpI at h2
        rw [show realOk p = true from rp, show realOk (sqV m) = true from r5] at h2
        simp only [Bool.and_self, if_true, Option.getD_some] at h2
        unfold cmpS at h2
        split at h2
        · omega
        · omega
      have hq : qr (sqV m) ≤ qr p := by
        unfold qr
        have h5 : (0 : Rat) < (p.den : Rat) := by exact_mod_cast (show (0 : Int) < p.den by omega)
        have h6 : (0 : Rat) < ((sqV m).den : Rat) := by exact_mod_cast (show (0 : Int) < (sqV m).den from by have := dq; unfold sqV; omega)
        have h7 : ((sqV m).re : Rat) * (p.den : Rat) ≤ (p.re : Rat) * ((sqV m).den : Rat) := by exact_mod_cast hle
        exact rat_cross h6 h5 h7
      rw [qp] at hq
      have : qr (sqV m) = qr m.b * qr m.b + qr m.c * qr m.c + qr m.d * qr m.d := by
        unfold sqV
        rw [q5, q3, q1, q2, q4]
      rw [← this]
      exact hq
end
end Go.Proofs.YtodhbkinbcemnaaGreatDoor
