/-
  The walk of the drawer of lists of real fractions.
-/
import Derived.Test.YtmaacdfbhilegaaDoorMd
import Derived.Test.YtmaacdfbhilegaaDoorLh
namespace Go.Proofs.YtmaacdfbhilegaaDoor
set_option linter.unusedSimpArgs false
set_option linter.unusedVariables false
open Go.RowKit
theorem OwF.belX {base br : Nat} {v : Value} {xs : List Fr} {w w' : World} (h : OwF base v xs w) (hb : BelX w.heap.size br w w') (hne : br < base) : OwF base v xs w' := by
  refine ⟨h.1, ?_⟩
  rcases h.2 with hn | ⟨g, cap, cur, rfl, hbg, hg, rest⟩
  · exact .inl hn
  · exact .inr ⟨g, cap, cur, rfl, hbg, (hb.block g (Array.getElem?_eq_some_iff.1 hg).1 (by omega)).trans hg, rest⟩
set_option maxRecDepth 100000 in
set_option maxHeartbeats 2000000 in
theorem drawMean_any (A : Option Addr) (len cap : Nat) (w : World) (hby : Bytes A len cap w) :
    Calls Tryd.prog 11 #[.slice A len cap] w fun e w' => ∃ (xs : List Fr) (v : Value), e = .returned v ∧ (OwF w.heap.size v xs w' ∧ xs.length ≤ 5) ∧ Below w.heap.size w w' := by
  go_enter Tryd.func11, Tryd.ntmps11
  go_wp2_with (go_at_call 26; (with_reducible refine (openB A len cap _ w.heap.size rfl hby).mono ?_); rintro e w1 ⟨rfl, hr1, hb⟩; refine Hid.out ?_)
  refine Lib.hid ?_
  have hz1 := hb.size
  have hlt := hr1.lt
  have hO0 := OwF.made w1 w1.heap.size (Nat.le_refl _)
  have hB0 : Below w.heap.size w (w1.alloc (.cells #[] 25)) := hb.alloc hz1 _
  have hr0 := hr1.alloc (.cells #[] 25)
  clear hb hr1
  go_wp2_with (go_at_call 27; (with_reducible refine (pick_any 6 w.heap.size _ (RdEx.of hr0 (by omega)) (by omega) (by omega)).mono ?_); rintro e w2 ⟨n, rfl, ⟨hu, hx⟩, hn0, hn1⟩; refine Hid.out ?_)
  refine Lib.hid ?_
  have hr2 := hu _ hr0
  have hO2 := hO0.belX hx hlt
  have hB2 : Below w.heap.size w w2 := hB0.trans ((hx.mono hB0.size).below (Nat.le_refl _))
  have hz12 : w1.heap.size ≤ w2.heap.size := by have := hx.size; simp at this; omega
  clear hu hx hO0 hB0 hr0
  go_wp2
  go_loopw [4, 6] (fun v i wr => ∃ (k : Nat) (out : List Fr), (k : Int) ≤ n ∧ i = .int .i64 k ∧ out.length = k ∧ OwF w1.heap.size v out wr ∧ RdIs wr w.heap.size (0 + 1 + 12 * k) ∧ w1.heap.size ≤ wr.heap.size ∧ Below w.heap.size w wr) (fun _ i _ => 5 - (intOf i).toNat)
  case atStart => exact ⟨0, [], by omega, rfl, rfl, hO2, hr2, hz12, hB2⟩
  case round =>
    clear hO2 hr2 hB2
    obtain ⟨k, out, hk, rfl, hol, hO, hr, hrw, hB⟩ := hrel
    have hz := hB.size
    by_cases hkn : (k : Int) < n
    · go_wp2_with (go_at_call 28; (with_reducible refine (dreal_any w.heap.size _ (RdEx.of hr (by omega))).mono ?_); rintro e w3 ⟨x, rfl, ⟨hu, hx⟩, -⟩; refine Hid.out ?_)
      refine Lib.hid ?_
      have hr3 := hu _ hr
      have hlr := hr.lt
      have hO3 := hO.belX hx hlt
      have hB3 : Below w.heap.size w w3 := hB.trans ((hx.mono hB.size).below (Nat.le_refl _))
      have hz3 := hB3.size
      have hz13 : w1.heap.size ≤ w3.heap.size := by have := hx.size; have := hrw; omega
      clear hu hx hO hr hB
      go_wp2_with (at_builtin; refine append_fr rfl (.tmp 17) (.tmp 20) rfl w1.heap.size _ _ _ (by rfl) hO3 x (by rfl) (by omega) hz13 ?_; intro v2 w4 hO4 hg4; refine Hid.out ?_)
      refine Lib.hid ?_
      have hL : Below w1.heap.size w3 w4 := (Below.refl w1.heap.size w3).grown hg4 hz13 (fun k hk => (hO3.lt k hk).1)
      have hr4 := hr3.below hL hlt
      have hB4 : Below w.heap.size w w4 := below_ownF hB3 hO3 hz1 hg4
      have hz14 : w1.heap.size ≤ w4.heap.size := Nat.le_trans hz13 hL.size
      clear hg4 hO3 hr3 hL
      go_wp2
      go_roundw
      case rel => exact ⟨k + 1, out ++ [x], by omega, by go_num, by simp [hol], hO4, hr4.mono (by omega), hz14, by (repeat' (first | (with_reducible exact Below.refl _ _) | (with_reducible assumption) | (with_reducible refine Below.setCell ?_ (by first | omega | (simp; done) | (simp; omega)) _) | (with_reducible refine Below.alloc ?_ (by first | omega | (simp; done) | (simp; omega)) _) | (with_reducible refine below_drewN ?_ _) | (with_reducible refine Below.drew ?_)))⟩
      case measure => simp [intOf]; omega
    · go_wp2
      go_ret
      exact ⟨out, _, rfl, ⟨hO.mono (by omega), by omega⟩, hB⟩
end Go.Proofs.YtmaacdfbhilegaaDoor
