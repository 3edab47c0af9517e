/-
  The walk of the drawer of fibres: any fibre, of few sections.
-/
import Derived.Test.YtiagnnmnaakmoaaDoorBk
import Derived.Test.YtiagnnmnaakmoaaDoorDw
namespace Go.Proofs.YtiagnnmnaakmoaaDoor
set_option linter.unusedSimpArgs false
set_option linter.unusedVariables false
open Go.RowKit
theorem Own.belX {base br : Nat} {v : Value} {xs : List Sec} {w w' : World} (h : Own base v xs w) (hb : BelX w.heap.size br w w') (hne : br < base) : Own base v xs w' := by
  refine ⟨h.1, ?_⟩
  rcases h.2 with hn | ⟨g, cap, cur, rfl, hbg, hg, rest⟩
  · exact .inl hn
  · exact .inr ⟨g, cap, cur, rfl, hbg, (hb.block g (Array.getElem?_eq_some_iff.1 hg).1 (by omega)).trans hg, rest⟩
theorem own_low {B base : Nat} {v : Value} {ys : List Sec} {W w' : World} (hO : Own base v ys W) (hb : B ≤ base) (hB : B ≤ W.heap.size) (hg : W.grownBy w' v.ownBlock) : Below B W w' :=
  (Below.refl B W).grown hg hB (fun k hk => Nat.le_trans hb (hO.lt k hk).1)
set_option maxRecDepth 100000 in
set_option maxHeartbeats 2000000 in
theorem dfibre_any (br : Nat) (w : World) (hr : RdEx 17 w br) :
    Calls Tryd.prog 37 #[.pointer (some ⟨br, 0, none⟩)] w fun e w' => ∃ (xs : List Sec) (v : Value), e = .returned v ∧ Drw 17 br w w' ∧ (Own w.heap.size v xs w' ∧ xs.length ≤ 7) := by
  obtain ⟨k0, hr, hmin, hk0⟩ := hr.min
  have hlt := hr.lt
  have hO0 := Own.made w w.heap.size (Nat.le_refl _)
  have hX0 : BelX w.heap.size br w (w.alloc (.cells #[] 59)) := (BelX.refl _ _ _).alloc (Nat.le_refl _) _
  go_enter Tryd.func37, Tryd.ntmps37
  go_wp2_with (go_at_call 50; (with_reducible refine (pick_any 4 br _ (by exact rd_) (by omega) (by omega)).mono ?_); rintro e w1 ⟨n, rfl, ⟨hu, hx⟩, hn0, hn1⟩; have hr1 := hu _ (by exact rd_); clear hu; have hO1 : Own w.heap.size (.slice (some ⟨w.heap.size, 0, none⟩) 0 0) [] w1 := hO0.belX hx hlt; have hX : BelX w.heap.size br w w1 := BelX.step hX0 hx side_; clear hx hO0 hX0 hr)
  go_loopw [3, 5, 6] (fun v i _ wr => ∃ (k : Nat) (out : List Sec), (k : Int) ≤ n ∧ i = .int .i64 k ∧ out.length ≤ 2 * k ∧ Own w.heap.size v out wr ∧ RdIs wr br (k0 + 1 + 5 * k) ∧ BelX w.heap.size br w wr) (fun _ i _ _ => 3 - (intOf i).toNat)
  case atStart => exact ⟨0, [], by omega, rfl, by simp, hO1, hr1, hX⟩
  case round =>
    clear hO1 hr1 hX
    obtain ⟨k, out, hk, rfl, hol, hO, hr, hX⟩ := hrel
    have hz := hX.size
    by_cases hkn : (k : Int) < n
    · go_wp2_with (first | (go_at_call 50; (with_reducible refine (pick_any 4 br _ (by exact rd_) (by omega) (by omega)).mono ?_); rintro e w1 ⟨x, rfl, ⟨hu, hx⟩, hx0, hx1⟩; have hr1 := hu _ (by exact rd_); clear hu; have hO1 : Own w.heap.size u3 out w1 := (by refine Own.belX ?_ hx hlt; (repeat' (first | (with_reducible assumption) | (with_reducible apply Own.alloc) | (with_reducible apply Own.drewN) | (with_reducible apply Own.drew) | (with_reducible refine Own.far ?_ ?_ _) | (exact fun k e => Nat.ne_of_lt (hne k e))))); have hX1 : BelX w.heap.size br w w1 := BelX.step (by exact belx_) hx side_; clear hx; have hz1 := hX1.size) | (go_at_call 50; (with_reducible refine (pick_any 2 br _ (by exact rd_) (by omega) (by omega)).mono ?_); rintro e w1 ⟨x, rfl, ⟨hu, hx⟩, hx0, hx1⟩; have hr1 := hu _ (by exact rd_); clear hu; have hO1 : Own w.heap.size u3 out w1 := (by refine Own.belX ?_ hx hlt; (repeat' (first | (with_reducible assumption) | (with_reducible apply Own.alloc) | (with_reducible apply Own.drewN) | (with_reducible apply Own.drew) | (with_reducible refine Own.far ?_ ?_ _) | (exact fun k e => Nat.ne_of_lt (hne k e))))); have hX1 : BelX w.heap.size br w w1 := BelX.step (by exact belx_) hx side_; clear hx; have hz1 := hX1.size) | (go_at_call 50; (with_reducible refine (pick_any 6 br _ (by exact rd_) (by omega) (by omega)).mono ?_); rintro e w1 ⟨x, rfl, ⟨hu, hx⟩, hx0, hx1⟩; have hr1 := hu _ (by exact rd_); clear hu; have hO1 : Own w.heap.size u3 out w1 := (by refine Own.belX ?_ hx hlt; (repeat' (first | (with_reducible assumption) | (with_reducible apply Own.alloc) | (with_reducible apply Own.drewN) | (with_reducible apply Own.drew) | (with_reducible refine Own.far ?_ ?_ _) | (exact fun k e => Nat.ne_of_lt (hne k e))))); have hX1 : BelX w.heap.size br w w1 := BelX.step (by exact belx_) hx side_; clear hx; have hz1 := hX1.size; refine Hid.out ?_))
      refine Lib.hid ?_
      go_wp2_with (at_builtin; refine append_sec rfl (.tmp 18) (.tmp 28) rfl w.heap.size _ _ _ (by rfl) hO1 ⟨_, _, _, _⟩ (by rfl) (by omega) hz1 ?_; intro v2 w2 hO2 hg2; refine Hid.out ?_)
      refine Lib.hid ?_
      have hL2 := own_low hO1 (Nat.le_refl _) hz1 hg2
      have hr2 := hr1.below hL2 hlt
      have hX2 := hX1.trans (BelX.of hL2)
      have hz2 := hX2.size
      clear hg2 hL2
      clear hO1 hr1 hX1
      obtain ⟨z, hO2⟩ : ∃ z, Own w.heap.size v2 (out ++ [z]) w2 := ⟨_, hO2⟩
      obtain ⟨A2, cap2, rfl, hS2⟩ := hO2.secs
      have hc2 := hS2.2.1
      have hc3 := hS2.2.2.1
      clear hS2
      obtain ⟨m, hm⟩ : ∃ m, m = out.length := ⟨_, rfl⟩
      have hlen : (out ++ [z]).length = m + 1 := by rw [hm]; simp
      have hm7 : m < 7 := by omega
      rw [hlen] at hO2 hc2 ⊢
      have HL := Lib.hid hlen
      have HM := Lib.hid hm
      clear hlen hm
      go_wp2_with (go_at_call 50; (with_reducible refine (pick_any 3 br _ (by exact rd_) (by omega) (by omega)).mono ?_); rintro e w1 ⟨x, rfl, ⟨hu, hx⟩, hx0, hx1⟩; have hr1 := hu _ (by exact rd_); clear hu; have hO1 : Own w.heap.size (.slice A2 (m + 1) cap2) (out ++ [z]) w1 := (by refine Own.belX ?_ hx hlt; (repeat' (first | (with_reducible assumption) | (with_reducible apply Own.alloc) | (with_reducible apply Own.drewN) | (with_reducible apply Own.drew) | (with_reducible refine Own.far ?_ ?_ _) | (exact fun k e => Nat.ne_of_lt (hne k e))))); have hX1 : BelX w.heap.size br w w1 := BelX.step (by exact belx_) hx side_; clear hx; have hz1 := hX1.size; refine Hid.out ?_)
      refine Lib.hid ?_
      clear hO2 hr2 hX2 hO hr hX
      by_cases hx : x = 0
      · have hxm : (out ++ [z])[m]? = some z := by rw [HM.out]; simp
        obtain ⟨g, cp, hv, hbg, hlt2, hat, hfz⟩ := hO1.at m z hxm
        have hv2 : A2 = some ⟨g, 0, none⟩ := by injection hv
        subst hv2
        clear hv hfz hxm
        obtain ⟨l0, l1, l2, l3⟩ := hat
        have hll : (out ++ [z]).length < 4000000 := by rw [HL.out]; omega
        go_wp2_with (at_builtin; refine append_sec rfl (.tmp 38) (.tmp 45) rfl w.heap.size _ _ _ (by rfl) hO1 z (by rfl) hll hz1 ?_; intro v3 w3 hO3 hg3; refine Hid.out ?_)
        refine Lib.hid ?_
        have hL3 := own_low hO1 (Nat.le_refl _) hz1 hg3
        have hr3 := hr1.below hL3 hlt
        have hX3 := hX1.trans (BelX.of hL3)
        clear hg3 hL3 hO1 hr1 hX1 l0 l1 l2 l3
        go_wp2
        go_roundw
        case rel => exact ⟨k + 1, _, by omega, by go_num, by have := HL.out; simp only [List.length_append, List.length_cons, List.length_nil] at this ⊢; have := HM.out; omega, hO3, hr3, hX3⟩
        case measure => simp [intOf]; omega
      · go_wp2
        go_roundw
        case rel => exact ⟨k + 1, _, by omega, by go_num, by have := HL.out; have := HM.out; omega, hO1, hr1, hX1⟩
        case measure => simp [intOf]; omega
    · go_wp2_with (go_at_call 50; (with_reducible refine (pick_any 24 br _ (by exact rd_) (by omega) (by omega)).mono ?_); rintro e w1 ⟨x, rfl, ⟨hu, hx⟩, hx0, hx1⟩; have hr1 := hu _ (by exact rd_); clear hu; have hO1 : Own w.heap.size u3 out w1 := (by refine Own.belX ?_ hx hlt; (repeat' (first | (with_reducible assumption) | (with_reducible apply Own.alloc) | (with_reducible apply Own.drewN) | (with_reducible apply Own.drew) | (with_reducible refine Own.far ?_ ?_ _) | (exact fun k e => Nat.ne_of_lt (hne k e))))); have hX1 : BelX w.heap.size br w w1 := BelX.step (by exact belx_) hx side_; clear hx; have hz1 := hX1.size; refine Hid.out ?_)
      refine Lib.hid ?_
      by_cases hx : x = 0
      · go_wp2_with (at_builtin; refine append_sec rfl (.tmp 50) (.tmp 52) rfl w.heap.size _ _ _ (by rfl) hO1 ⟨1, 0, 1, 51⟩ (by rfl) (by omega) hz1 ?_; intro v3 w3 hO3 hg3; refine Hid.out ?_)
        refine Lib.hid ?_
        have hL3 := own_low hO1 (Nat.le_refl _) hz1 hg3
        have hr3 := hr1.below hL3 hlt
        have hX3 := hX1.trans (BelX.of hL3)
        go_wp2
        go_ret
        exact ⟨_, _, rfl, drw_mk hmin (hr3.mono (by omega)) hX3, hO3, by simp only [List.length_append, List.length_cons, List.length_nil]; omega⟩
      · go_wp2
        go_ret
        exact ⟨_, _, rfl, drw_mk hmin (hr1.mono (by omega)) hX1, hO1, by omega⟩
set_option maxHeartbeats 1000000 in
theorem drawFibreOrder_any (A : Option Addr) (len cap : Nat) (w : World) (hby : Bytes A len cap w) :
    Calls Tryd.prog 15 #[.slice A len cap] w fun e w' => ∃ (xs : List Sec) (v : Value), e = .returned v ∧ (Own w.heap.size v xs w' ∧ xs.length ≤ 7) ∧ Below w.heap.size w w' := by
  go_enter Tryd.func15, Tryd.ntmps15
  go_wp2_with (go_at_call 38; (with_reducible refine (openB A len cap _ w.heap.size rfl hby).mono ?_); rintro e w1 ⟨rfl, hr1, hb⟩; refine Hid.out ?_)
  refine Lib.hid ?_
  have hz1 := hb.size
  have hlt := hr1.lt
  go_wp2_with (go_at_call 37; (with_reducible refine (dfibre_any w.heap.size _ (RdEx.of hr1 (by omega))).mono ?_); rintro e w2 ⟨xs, v, rfl, ⟨-, hx⟩, hO, hl⟩; refine Hid.out ?_)
  refine Lib.hid ?_
  have hO1 := hO.mono hz1
  have hB := hb.trans ((hx.mono hz1).below (Nat.le_refl _))
  clear hO hx hb hr1
  go_wp2
  go_ret
  exact ⟨xs, _, rfl, ⟨hO1, hl⟩, hB⟩
end Go.Proofs.YtiagnnmnaakmoaaDoor
