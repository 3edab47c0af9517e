/-
  Texts of this claim, joined: Zs; Mz; Zf. Nothing is claimed here; the other texts of this claim use it.
-/
import Derived.Test.YtodhbkinbcemnaaGreatDoorPc
import Derived.Test.YtodhbkinbcemnaaGreatDoorEq
import Derived.Test.YtodhbkinbcemnaaGreatDoorUm
import Derived.Test.YtodhbkinbcemnaaGreatDoorYb
import Derived.BigQuiet
import Derived.Deep.CutRange
import Derived.Test.YtodhbkinbcemnaaGreatDoorDz
import Derived.Test.YtodhbkinbcemnaaGreatDoorYf
namespace Go.Proofs.YtodhbkinbcemnaaGreatDoor
set_option linter.unusedSimpArgs false
set_option linter.unusedVariables false
section
open Go.RowKit
attribute [local go_sem ↓] Go.wp_at_zero Go.wp_at_succ
theorem OwF.frsT {base n cap : Nat} {A : Option Addr} {xs : List Fr} {w : World} (h : OwF base (.slice A n cap) xs w) : Frs A n cap xs w := by
  obtain ⟨A1, c1, e, hF⟩ := h.frs
  simp only [Value.slice.injEq] at e
  obtain ⟨rfl, rfl, rfl⟩ := e
  exact hF
theorem eqF_runt (a : Fr) (w : World) : (Op.equalIn 10000 25 (frv a) (frv a)).run Tryz.prog w = .ok true w := eqF_run 9998 a w
section
attribute [local go_sem] eqF_runt
set_option maxRecDepth 100000 in
set_option maxHeartbeats 8000000 in
theorem sameFrs_refl (A A' : Option Addr) (len cap cap' : Nat) (xs : List Fr) (w : World) (h : Frs A len cap xs w) (h' : Frs A' len cap' xs w) :
    Calls Tryz.prog 9 #[.slice A len cap, .slice A' len cap'] w fun e w' => e = .returned (.bool true) ∧ Below w.heap.size w w' := by
  have hl := h.2.1
  have hm := h.2.2.1
  go_enter Tryz.func9, Tryz.ntmps9
  go_wp2
  go_loopw [5] (fun i wr => ∃ k : Nat, k ≤ len ∧ i = .int .i64 k ∧ Below w.heap.size w wr) (fun i _ => len - (intOf i).toNat)
  case atStart => exact ⟨0, Nat.zero_le _, rfl, Below.refl _ _⟩
  case round =>
    obtain ⟨k, hk, rfl, hb⟩ := hrel
    have hz := hb.size
    by_cases hkl : k < len
    · obtain ⟨b1, o1, s, rfl, hlt1, hs1, hc1⟩ := h.at hb hkl
      obtain ⟨b2, o2, s2, rfl, hlt2, hs2, hc2⟩ := h'.at hb hkl
      obtain rfl : s = s2 := by rw [hs1] at hs2; exact Option.some.inj hs2
      obtain ⟨c0, c1, c2⟩ := hc1
      obtain ⟨d0, d1, d2⟩ := hc2
      clear hs1 hs2
      have hki : (k : Int) < (len : Int) := by omega
      have hk0 : (0 : Int) ≤ (k : Int) := by omega
      go_upto_region 6 with fail
      go_quiet (fail)
      go_wp2
      go_roundw
      case rel => exact ⟨k + 1, by omega, by go_num, below_drewN hb _⟩
      case measure => first | (simp [intOf]; done) | (simp [intOf]; omega)
    · go_wp2
      go_ret
      exact ⟨rfl, by exact below_⟩
end
theorem OwA.frsT {base n cap : Nat} {A : Option Addr} {xs : List Sta} {w : World} (h : OwA base (.slice A n cap) xs w) : Sas A n cap xs w := by
  obtain ⟨A1, c1, e, hF⟩ := h.frs
  simp only [Value.slice.injEq] at e
  obtain ⟨rfl, rfl, rfl⟩ := e
  exact hF
theorem read_lenT {xs : List Sta} {m : Mt} : ((readM xs m).getD []).length ≤ 16 := by
  cases h : readM xs m with
  | none => simp
  | some rs =>
    obtain ⟨h1, -, -, rfl⟩ := read_some h
    simpa using h1
theorem readT (A : Option Addr) (len cap : Nat) (xs : List Sta) (m : Mt) (rs : List Fr) (ok : Bool) (w : World) (hS : Sas A len cap xs w) (hO : GO w) (hZ : GZ w) (hT : GT w) (e : Hid ((readM xs m).getD [] = rs ∧ (readM xs m).isSome = ok)) :
    Calls Tryz.prog 7 #[.slice A len cap, mtv m] w fun e w' => ∃ v, e = .returned (.tuple #[v, .bool ok]) ∧ OwF w.heap.size v rs w' ∧ Below w.heap.size w w' := by
  rw [← e.out.1, ← e.out.2]
  exact (read_any A len cap xs m w hS hO hZ hT).mono fun e w' ⟨⟨v, h1, h2⟩, h3⟩ => ⟨v, h1, h2, h3⟩
theorem sreadT (A : Option Addr) (len cap : Nat) (xs : List Sta) (m : Mt) (rs : List Fr) (ok : Bool) (w : World) (hS : Sas A len cap xs w) (e : Hid ((readM xs m).getD [] = rs ∧ (readM xs m).isSome = ok)) :
    Calls Tryz.prog 8 #[.slice A len cap, mtv m] w fun e w' => ∃ v, e = .returned (.tuple #[v, .bool ok]) ∧ OwF w.heap.size v rs w' ∧ Below w.heap.size w w' := by
  rw [← e.out.1, ← e.out.2]
  exact (sread_any A len cap xs m w hS).mono fun e w' ⟨⟨v, h1, h2⟩, h3⟩ => ⟨v, h1, h2, h3⟩
theorem sread_eT (A : Option Addr) (len cap : Nat) (xs : List Sta) (m : Mt) (w : World) (hS : Sas A len cap xs w) :
    Calls Tryz.prog 8 #[.slice A len cap, mtv m] w fun e w' => ∃ (v : Value) (rs : List Fr) (ok : Bool), e = .returned (.tuple #[v, .bool ok]) ∧ OwF w.heap.size v rs w' ∧ rs.length ≤ 16 ∧ Below w.heap.size w w' :=
  (sread_any A len cap xs m w hS).mono fun e w' ⟨⟨v, h1, h2⟩, h3⟩ => ⟨v, _, _, h1, h2, read_lenT, h3⟩
end
section
open Go.RowKit
def DrG (br : Nat) (w : World) (e : Ending) (w' : World) : Prop := ∃ x : Fr, e = .returned (frv x) ∧ Drw 12 br w w' ∧ True
set_option maxRecDepth 100000 in
set_option maxHeartbeats 2000000 in
theorem dreal_any (br : Nat) (w : World) (hr : RdEx 12 w br) :
    Calls Tryz.prog 56 #[.pointer (some ⟨br, 0, none⟩)] w (DrG br w) := by
  obtain ⟨k, hr, hmin, hk⟩ := hr.min
  have hlt := hr.lt
  have hX0 : BelX w.heap.size br w (w.alloc (.cells #[.int .i64 0, .int .i64 0, .int .i64 0] 25)) := (BelX.refl _ _ _).alloc (Nat.le_refl _) _
  go_enter Tryz.func56, Tryz.ntmps56
  go_wp2_with (go_at_call 89; (with_reducible refine (dfrac_any br _ (by exact rd_)).mono ?_); rintro e w1 ⟨a, rfl, ⟨hu, hx⟩, -⟩; refine Hid.out ?_)
  refine Lib.hid ?_
  have hr1 := (hu _ (hr.alloc _)).alloc (.cells #[.int .i64 a.re, .int .i64 a.im, .int .i64 a.den] 25)
  have hJ : FrG w1 w.heap.size ⟨0, 0, 0⟩ := (FrG.new w ⟨0, 0, 0⟩ 25).step hx (by simp) (by omega)
  have hX : BelX w.heap.size br w w1 := BelX.step hX0 hx (by simp)
  have hz1 := hX.size
  have hbx := FrG.new w1 a 25
  have hj1 := hJ.lt
  have hJ := hJ.alloc (.cells #[.int .i64 a.re, .int .i64 a.im, .int .i64 a.den] 25)
  have hX : BelX w.heap.size br w (w1.alloc (.cells #[.int .i64 a.re, .int .i64 a.im, .int .i64 a.den] 25)) := hX.alloc hz1 _
  clear hu hx hX0 hr
  go_wp2_with (go_at_call 22; (with_reducible refine (pick_any 20 br _ (RdEx.of hr1 (by omega)) (by omega) (by omega)).mono ?_); rintro e w2 ⟨n, rfl, ⟨hu, hx⟩, hn⟩; refine Hid.out ?_)
  refine Lib.hid ?_
  have hr2 := hu _ hr1
  have hJ : FrG w2 w.heap.size ⟨0, 0, 0⟩ := hJ.step hx (by simp; omega) (by omega)
  have hbx : FrG w2 w1.heap.size a := hbx.step hx (by simp) (by omega)
  have hX : BelX w.heap.size br w w2 := BelX.step hX hx (by simp; omega)
  have hz2 := hX.size
  have hl2 := hJ.lt
  obtain ⟨z0, z1, z2, zf⟩ := hJ
  obtain ⟨x0, x1, x2, xf⟩ := hbx
  clear hu hx hr1 hn
  go_wp2_with (first | (go_at_call 22; (with_reducible refine (pick_any 17 br _ (by exact rd_) (by omega) (by omega)).mono ?_); rintro e w1 ⟨x17, rfl, ⟨hu, hx⟩, hbd⟩; have hr1 := hu _ (by exact rd_); clear hu; obtain ⟨hc, hf⟩ := bfxO hx (w.heap.size) (w.heap.size + 1) side_ side_; have hs2 := hx.size; (try simp only [World.size_alloc, World.size_setCell, World.size_drew, World.heap_drewN] at hs2); have hl : w.heap.size ≤ w1.heap.size ∧ w.heap.size < w1.heap.size := ⟨by omega, by omega⟩; have hX : BelX w.heap.size br w w1 := BelX.step (by exact belx_) hx side_; clear hs2 hx) | (go_at_call 22; (with_reducible refine (pick_any 4 br _ (by exact rd_) (by omega) (by omega)).mono ?_); rintro e w1 ⟨x4, rfl, ⟨hu, hx⟩, hbd⟩; have hr1 := hu _ (by exact rd_); clear hu; obtain ⟨hc, hf⟩ := bfxO hx (w.heap.size) (w.heap.size + 1) side_ side_; have hs2 := hx.size; (try simp only [World.size_alloc, World.size_setCell, World.size_drew, World.heap_drewN] at hs2); have hl : w.heap.size ≤ w1.heap.size ∧ w.heap.size < w1.heap.size := ⟨by omega, by omega⟩; have hX : BelX w.heap.size br w w1 := BelX.step (by exact belx_) hx side_; clear hs2 hx) | (go_at_call 90; (with_reducible refine (slow_any _ _ _ _ (by omega) (by omega) (by omega) (by omega) (by omega) (by omega)).mono ?_); rintro e w1 ⟨rfl, hb⟩; obtain ⟨hc, hf⟩ := bf hb (w.heap.size + 1) side_; have hs := hb.size; (try simp only [World.size_alloc, World.size_setCell, World.size_drew, World.heap_drewN] at hs); have hl : w.heap.size ≤ w1.heap.size ∧ w.heap.size < w1.heap.size := ⟨by omega, by omega⟩; obtain ⟨B, hBe, hBl, hc2, hf2⟩ := bfA hb; (try simp only [World.size_alloc, World.size_setCell, World.size_drew, World.heap_drewN] at hBe); have hX : BelX w.heap.size (br) w w1 := BelX.stepB (by exact belx_) hb side_; have hr1 : RdIs w1 (br) _ := RdIs.below (by exact rd_) hb side_; clear hs hb))
  · exact bodyPost_ret (v := frv a) (by simp [results, Tryz.results56, go_sem, *]) rfl ⟨_, rfl, drw_mk hmin (RdIs.mono (k' := k + 12) (by exact rd_) (by omega)) (by exact belx_), trivial⟩
  · exact bodyPost_ret (v := frv ((lowI (x17 - 8) 0 (1 + x4)).getD ⟨0, 0, 0⟩)) (by simp [results, Tryz.results56, go_sem, *]) rfl ⟨_, rfl, drw_mk hmin (RdIs.mono (k' := k + 12) (by exact rd_) (by omega)) (by exact belx_), trivial⟩
end
section
open Go.RowKit
attribute [local go_sem ↓] Go.wp_at_zero Go.wp_at_succ
theorem OwF.belXs {base br : Nat} {v : Value} {xs : List Fr} {w w' : World} (h : OwF base v xs w) (hb : BelX w.heap.size br w w') (hne : br < base) : OwF base v xs w' := by
  refine ⟨h.1, ?_⟩
  rcases h.2 with hn | ⟨g, cap, cur, rfl, hbg, hg, rest⟩
  · exact .inl hn
  · exact .inr ⟨g, cap, cur, rfl, hbg, (hb.block g (Array.getElem?_eq_some_iff.1 hg).1 (by omega)).trans hg, rest⟩
set_option maxRecDepth 100000 in
set_option maxHeartbeats 8000000 in
theorem drawMeterSolve_any (A : Option Addr) (len cap : Nat) (w : World) (hby : Bytes A len cap w) :
    Calls Tryz.prog 17 #[.slice A len cap] w fun e w' => ∃ (xs : List Sta) (rs : List Fr) (v u : Value), e = .returned (.tuple #[v, u]) ∧ (OwA w.heap.size v xs w' ∧ xs.length ≤ 5 ∧ OwF w.heap.size u rs w' ∧ rs.length ≤ 16) ∧ Below w.heap.size w w' := by
  go_enter Tryz.func17, Tryz.ntmps17
  go_wp2_with (go_at_call 20; (with_reducible refine (openB A len cap _ w.heap.size rfl hby).mono ?_); rintro e w1 ⟨rfl, hr1, hb⟩; refine Hid.out ?_)
  refine Lib.hid ?_
  have hz1 := hb.size
  have hlt := hr1.lt
  go_wp2_with (go_at_call 21; (with_reducible refine (dstations_any w.heap.size _ (RdEx.of hr1 (by omega))).mono ?_); rintro e w2 ⟨xs, v, rfl, ⟨hO, hxl⟩, ⟨hu, hX⟩⟩; refine Hid.out ?_)
  refine Lib.hid ?_
  have hr2 := hu _ hr1
  have hB2 : Below w.heap.size w w2 := hb.trans ((hX.mono hz1).below (Nat.le_refl _))
  have hz12 := hX.size
  obtain ⟨A2, c2, rfl, -⟩ := hO.frs
  clear hu hX hr1 hb
  go_wp2_with (go_at_call 24; (with_reducible refine (dlight_any w.heap.size _ (RdEx.of hr2 (by omega))).mono ?_); rintro e w3 ⟨m, rfl, ⟨hu, hX⟩, -⟩; refine Hid.out ?_)
  refine Lib.hid ?_
  have hr3 := hu _ hr2
  have hO3 := hO.belX hX (by omega)
  have hB3 : Below w.heap.size w w3 := hB2.trans ((hX.mono hB2.size).below (Nat.le_refl _))
  have hz23 := hX.size
  clear hu hX hr2 hO hB2
  go_wp2_with (go_at_call 8; (with_reducible refine (sread_eT A2 _ c2 xs m _ hO3.frsT).mono ?_); rintro e w4 ⟨v6, rs, ok, rfl, hF4, hrl, hb4⟩; refine Hid.out ?_)
  refine Lib.hid ?_
  have hr4 := hr3.below hb4 hr3.lt
  have hO4 := hO3.below hb4
  have hB4 : Below w.heap.size w w4 := bstep hB3 hb4 hB3.size
  have hz34 := hb4.size
  have hz14 : w.heap.size < w1.heap.size ∧ w1.heap.size ≤ w4.heap.size := by omega
  obtain ⟨g1, g2⟩ := hz14
  have hF4 := hF4.mono (base' := w1.heap.size) (by omega)
  clear hb4 hr3 hO3 hB3 hz12 hz23 hz34 hz1
  cases ok
  · have hr := hr4
    have hO := hO4
    have hB := hB4
    clear hr4 hO4 hB4 hF4
    have hO0 := OwF.made w4 w4.heap.size (Nat.le_refl _)
    have hr0 := hr.alloc (.cells #[] 25)
    have hX0 : BelX w4.heap.size w.heap.size w4 (w4.alloc (.cells #[] 25)) := (BelX.refl _ _ _).alloc (Nat.le_refl _) _
    go_wp2
    go_loopw [8, 9] (fun v i wr => ∃ (k : Nat) (out : List Fr), k ≤ 4 ∧ i = .int .i64 k ∧ out.length = k ∧ OwF w4.heap.size v out wr ∧ RdIs wr w.heap.size ((0 + 17 + 4) + 12 * k) ∧ BelX w4.heap.size w.heap.size w4 wr) (fun _ i _ => 4 - (intOf i).toNat)
    case atStart => exact ⟨0, [], by omega, rfl, rfl, hO0, hr0, hX0⟩
    case round =>
      clear hO0 hr0 hX0 hr
      obtain ⟨k, out, hk, rfl, hol, hF, hr, hX⟩ := hrel
      have hz := hX.size
      by_cases hk4 : k < 4
      · have hki : (k : Int) < 4 := by omega
        go_wp2_with (go_at_call 56; (with_reducible refine (dreal_any w.heap.size _ (RdEx.of hr (by omega))).mono ?_); rintro e w3 ⟨x, rfl, ⟨hu, hx⟩, -⟩; refine Hid.out ?_)
        refine Lib.hid ?_
        have hr3 := hu _ hr
        have hF3 := OwF.belXs hF hx (by omega)
        have hX3 : BelX w4.heap.size w.heap.size w4 w3 := BelX.step hX hx hX.size
        have hz3 := hX3.size
        have hl4 : out.length < 4000000 := by omega
        have HOL := Lib.hid hol
        clear hu hx hF hr hX hol
        go_wp2_with (at_builtin; refine append_fr rfl (.tmp 34) (.tmp 37) rfl w4.heap.size _ _ _ (by rfl) hF3 x (by rfl) hl4 hz3 ?_; intro v2 w9 hF4 hg4; refine Hid.out ?_)
        refine Lib.hid ?_
        have hL : Below w4.heap.size w3 w9 := (Below.refl w4.heap.size w3).grown hg4 hz3 (fun k hk => (hF3.lt k hk).1)
        have hr4 := hr3.below hL (by omega)
        have hX4 : BelX w4.heap.size w.heap.size w4 w9 := hX3.trans (BelX.of hL)
        clear hg4 hF3 hr3 hL hX3
        go_wp2
        go_roundw
        case rel => exact ⟨k + 1, out ++ [x], by omega, by go_num, by simp [HOL.out], hF4, hr4.mono (by omega), hX4⟩
        case measure => simp [intOf]; omega
      · obtain rfl : k = 4 := by omega
        have hO9 := hO.belX hX (by omega)
        have hB9 : Below w.heap.size w wr := hB.trans ((hX.mono hB.size).below (Nat.le_refl _))
        go_wp2
        go_ret2
        exact ⟨xs, out, _, _, rfl, ⟨hO9.mono (by omega), hxl, hF.mono (by omega), by omega⟩, hB9⟩
  · go_wp2_with (go_at_call 22; (with_reducible refine (pick_any 4 w.heap.size _ (RdEx.of hr4 (by omega)) (by omega) (by omega)).mono ?_); rintro e w5 ⟨x, rfl, ⟨hu, hX⟩, hx0, hx1⟩; refine Hid.out ?_)
    refine Lib.hid ?_
    have hr := hu _ hr4
    have hO := hO4.belX hX (by omega)
    have hF5 := OwF.belXs hF4 hX (by omega)
    have hB : Below w.heap.size w w5 := hB4.trans ((hX.mono hB4.size).below (Nat.le_refl _))
    have hz5 := hX.size
    have g3 : w1.heap.size ≤ w5.heap.size := by omega
    clear hu hX hr4 hO4 hB4 hF4
    by_cases hx : 0 < x
    · go_wp2
      go_ret2
      exact ⟨xs, rs, _, _, rfl, ⟨hO.mono (by omega), hxl, hF5.mono (by omega), hrl⟩, hB⟩
    · clear hF5
      have hO0 := OwF.made w5 w5.heap.size (Nat.le_refl _)
      have hr0 := hr.alloc (.cells #[] 25)
      have hX0 : BelX w5.heap.size w.heap.size w5 (w5.alloc (.cells #[] 25)) := (BelX.refl _ _ _).alloc (Nat.le_refl _) _
      go_wp2
      go_loopw [8, 9] (fun v i wr => ∃ (k : Nat) (out : List Fr), k ≤ 4 ∧ i = .int .i64 k ∧ out.length = k ∧ OwF w5.heap.size v out wr ∧ RdIs wr w.heap.size ((0 + 17 + 4 + 1) + 12 * k) ∧ BelX w5.heap.size w.heap.size w5 wr) (fun _ i _ => 4 - (intOf i).toNat)
      case atStart => exact ⟨0, [], by omega, rfl, rfl, hO0, hr0, hX0⟩
      case round =>
        clear hO0 hr0 hX0 hr
        obtain ⟨k, out, hk, rfl, hol, hF, hr, hX⟩ := hrel
        have hz := hX.size
        by_cases hk4 : k < 4
        · have hki : (k : Int) < 4 := by omega
          go_wp2_with (go_at_call 56; (with_reducible refine (dreal_any w.heap.size _ (RdEx.of hr (by omega))).mono ?_); rintro e w3 ⟨x, rfl, ⟨hu, hx⟩, -⟩; refine Hid.out ?_)
          refine Lib.hid ?_
          have hr3 := hu _ hr
          have hF3 := OwF.belXs hF hx (by omega)
          have hX3 : BelX w5.heap.size w.heap.size w5 w3 := BelX.step hX hx hX.size
          have hz3 := hX3.size
          have hl4 : out.length < 4000000 := by omega
          have HOL := Lib.hid hol
          clear hu hx hF hr hX hol
          go_wp2_with (at_builtin; refine append_fr rfl (.tmp 34) (.tmp 37) rfl w5.heap.size _ _ _ (by rfl) hF3 x (by rfl) hl4 hz3 ?_; intro v2 w9 hF4 hg4; refine Hid.out ?_)
          refine Lib.hid ?_
          have hL : Below w5.heap.size w3 w9 := (Below.refl w5.heap.size w3).grown hg4 hz3 (fun k hk => (hF3.lt k hk).1)
          have hr4 := hr3.below hL (by omega)
          have hX4 : BelX w5.heap.size w.heap.size w5 w9 := hX3.trans (BelX.of hL)
          clear hg4 hF3 hr3 hL hX3
          go_wp2
          go_roundw
          case rel => exact ⟨k + 1, out ++ [x], by omega, by go_num, by simp [HOL.out], hF4, hr4.mono (by omega), hX4⟩
          case measure => simp [intOf]; omega
        · obtain rfl : k = 4 := by omega
          have hO9 := hO.belX hX (by omega)
          have hB9 : Below w.heap.size w wr := hB.trans ((hX.mono hB.size).below (Nat.le_refl _))
          go_wp2
          go_ret2
          exact ⟨xs, out, _, _, rfl, ⟨hO9.mono (by omega), hxl, hF.mono (by omega), by omega⟩, hB9⟩
end
end Go.Proofs.YtodhbkinbcemnaaGreatDoor
