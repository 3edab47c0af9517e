/-
  Texts of this claim, joined: Uq; Uv. Nothing is claimed here; the other texts of this claim use it.
-/
import Derived.Test.YtodhbkinbcemnaaGreatDoorDz
import Derived.Test.YtodhbkinbcemnaaGreatDoorPj
import Derived.IntWalk
import Derived.Test.YtodhbkinbcemnaaGreatDoorSb
import Derived.Test.YtodhbkinbcemnaaGreatDoorPc
namespace Go.Proofs.YtodhbkinbcemnaaGreatDoor
set_option linter.unusedSimpArgs false
set_option linter.unusedVariables false
section
open Go.RowKit
attribute [local go_sem ↓] Go.wp_at_zero Go.wp_at_succ
set_option maxRecDepth 100000 in
set_option maxHeartbeats 2000000 in
theorem dstation_any (br : Nat) (w : World) (hr : RdEx 3 w br) :
    Calls Tryz.prog 60 #[.pointer (some ⟨br, 0, none⟩)] w fun e w' => ∃ s : Sta, e = .returned (stv s) ∧ Drw 3 br w w' ∧ True := by
  obtain ⟨k, hr, hmin, hk⟩ := hr.min
  have hlt := hr.lt
  go_enter Tryz.func60, Tryz.ntmps60
  go_wp2_with (first | (go_at_call 22; (with_reducible refine (pick_any 4 br _ (by exact rd_) (by omega) (by omega)).mono ?_); rintro e w1 ⟨x, rfl, ⟨hu, hx⟩, hbd⟩; have hr1 := hu _ (by exact rd_); clear hu; obtain ⟨hc, hf⟩ := bfxO hx (w.heap.size) (w.heap.size + 1) side_ side_; have hs2 := hx.size; (try simp only [World.size_alloc, World.size_setCell, World.size_drew, World.heap_drewN] at hs2); have hl : w.heap.size ≤ w1.heap.size ∧ w.heap.size < w1.heap.size := ⟨by omega, by omega⟩; have hX : BelX w.heap.size br w w1 := BelX.step (by exact belx_) hx side_; clear hs2 hx) | (go_at_call 22; (with_reducible refine (pick_any 3 br _ (by exact rd_) (by omega) (by omega)).mono ?_); rintro e w1 ⟨y, rfl, ⟨hu, hx⟩, hbd⟩; have hr1 := hu _ (by exact rd_); clear hu; obtain ⟨hc, hf⟩ := bfxO hx (w.heap.size) (w.heap.size + 1) side_ side_; have hs2 := hx.size; (try simp only [World.size_alloc, World.size_setCell, World.size_drew, World.heap_drewN] at hs2); have hl : w.heap.size ≤ w1.heap.size ∧ w.heap.size < w1.heap.size := ⟨by omega, by omega⟩; have hX : BelX w.heap.size br w w1 := BelX.step (by exact belx_) hx side_; clear hs2 hx) | (go_at_call 22; (with_reducible refine (pick_any 2 br _ (by exact rd_) (by omega) (by omega)).mono ?_); rintro e w1 ⟨z, rfl, ⟨hu, hx⟩, hbd⟩; have hr1 := hu _ (by exact rd_); clear hu; obtain ⟨hc, hf⟩ := bfxO hx (w.heap.size) (w.heap.size + 1) side_ side_; have hs2 := hx.size; (try simp only [World.size_alloc, World.size_setCell, World.size_drew, World.heap_drewN] at hs2); have hl : w.heap.size ≤ w1.heap.size ∧ w.heap.size < w1.heap.size := ⟨by omega, by omega⟩; have hX : BelX w.heap.size br w w1 := BelX.step (by exact belx_) hx side_; clear hs2 hx))
  exact bodyPost_ret (v := stv ⟨x, 1 - y + z * 2⟩) (by simp [results, Tryz.results60, go_sem, *]) rfl ⟨⟨x, 1 - y + z * 2⟩, rfl, drw_mk hmin (by exact rd_) (by exact belx_), trivial⟩
end
section
open Go.RowKit
attribute [local go_sem ↓] Go.wp_at_zero Go.wp_at_succ
/-- A new list without elements. -/
theorem OwA.made (w : World) (base : Nat) (hb : base ≤ w.heap.size) : OwA base (.slice (some ⟨w.heap.size, 0, none⟩) 0 0) [] (w.alloc (.cells #[] 40)) :=
  World.ownsRow_made (size := 2) w #[] 0 hb (by unfold maxLen; omega) rfl
/-- A list written out. -/
theorem OwA.lit {W : World} {g base : Nat} {xs : List Sta} (h : W.heap[g]? = some (.cells (rowA xs).toArray 40 (0, 0))) (hb : base ≤ g) (hn : xs.length ≤ 1000) : OwA base (.slice (some ⟨g, 0, none⟩) xs.length xs.length) xs W := by
  refine ⟨rowA_length xs, .inr ⟨g, xs.length, _, rfl, hb, h, Nat.le_refl _, by unfold maxLen; omega, by simp [rowA_length], ?_⟩⟩
  rw [show (rowA xs).toArray.toList = rowA xs by simp, List.take_of_length_le (by rw [rowA_length]; omega)]
/-- One station is put behind a list of the call's own. -/
theorem append_sta {ops : Array Oper} {rest : List Oper} {o : Oper} {a : Act} {Q : Exit → Act → World → Prop} (hgd : o.guard = none) (s x : Operand)
    (ho : o.op = .call { callee := .builtin .append, args := #[s, x], argTypes := #[23, 23] }) (base : Nat) (v : Value) (ys : List Sta) (W : World) (hs : a.eval s = v) (hO : OwA base v ys W) (z : Sta)
    (hx : a.eval x = .slice (some ⟨W.heap.size, 0, none⟩) 1 1) (hlen : ys.length < 4000000) (hb : base ≤ W.heap.size)
    (h : ∀ v' w', OwA base v' (ys ++ [z]) w' → W.grownBy w' v.ownBlock → wpList Tryz.prog ops Q rest (a.put o.dst v') w') :
    wpList Tryz.prog ops Q (o :: rest) a (W.alloc (.cells #[.int .i64 z.p, .int .i64 z.q] 40)) := by
  obtain ⟨i0, hi, hz0, hz1, hz2⟩ := info_parts infoSa
  refine wpList_append_own _ hgd s x 23 ho base 40 i0 (.agg #[.int .i64 0, .int .i64 0]) 2 16 Tryz.underlying23 hi hz0 hz1 hz2 rfl (by decide) v ys.length (rowA ys) hs (hO.alloc _) ⟨W.heap.size, 0, none⟩ 1 1 (staL z) hx rfl ?_ ?_ (by unfold maxLen; omega) (by omega) (by simp; omega) ?_
  · intro j u hj
    rw [add_noneF]
    match j, hj with
    | 0, hj => simp [staL] at hj; subst hj; exact World.cell?_alloc_at _ _ _ _ rfl
    | 1, hj => simp [staL] at hj; subst hj; exact World.cell?_alloc_at _ _ _ _ rfl
    | n + 2, hj => simp [staL] at hj
  · intro u hu
    simp only [staL, List.mem_cons, List.not_mem_nil, or_false] at hu
    rcases hu with rfl | rfl <;> rfl
  · intro v' w' hown hgr _
    refine h v' w' ?_ (grownBy_transF (World.grownBy_alloc _ _ _) hgr)
    unfold OwA
    rw [rowA_append, rowA_one, List.length_append]
    exact hown
theorem OwA.belX {base br : Nat} {v : Value} {xs : List Sta} {w w' : World} (h : OwA base v xs w) (hb : BelX w.heap.size br w w') (hne : br < base) : OwA base v xs w' := by
  refine ⟨h.1, ?_⟩
  rcases h.2 with hn | ⟨g, cap, cur, rfl, hbg, hg, rest⟩
  · exact .inl hn
  · exact .inr ⟨g, cap, cur, rfl, hbg, (hb.block g (Array.getElem?_eq_some_iff.1 hg).1 (by omega)).trans hg, rest⟩
set_option maxRecDepth 100000 in
set_option maxHeartbeats 4000000 in
theorem dstations_any (br : Nat) (w : World) (hr : RdEx 17 w br) :
    Calls Tryz.prog 21 #[.pointer (some ⟨br, 0, none⟩)] w fun e w' => ∃ (xs : List Sta) (v : Value), e = .returned v ∧ (OwA w.heap.size v xs w' ∧ xs.length ≤ 5) ∧ Drw 17 br w w' := by
  obtain ⟨k0, hr, hmin, hk0⟩ := hr.min
  have hlt := hr.lt
  go_enter Tryz.func21, Tryz.ntmps21
  go_wp2_with (go_at_call 22; (with_reducible refine (pick_any 3 br _ (RdEx.of hr (by omega)) (by omega) (by omega)).mono ?_); rintro e w1 ⟨x, rfl, ⟨hu, hX1⟩, hx0, hx1⟩; refine Hid.out ?_)
  refine Lib.hid ?_
  have hr1 := hu _ hr
  have hz1 := hX1.size
  clear hu
  by_cases hx : 0 < x
  · have hr4 : RdIs ((((w1.alloc (.cells #[.int .i64 1, .int .i64 0, .int .i64 2, .int .i64 1, .int .i64 3, .int .i64 1, .int .i64 1, .int .i64 2] 40)).alloc (.cells #[.int .i64 2, .int .i64 1, .int .i64 1, .int .i64 2, .int .i64 1, .int .i64 3, .int .i64 1, .int .i64 (-2)] 40)).alloc (.cells #[.int .i64 1, .int .i64 0, .int .i64 2, .int .i64 1, .int .i64 1, .int .i64 (-2), .int .i64 3, .int .i64 1] 40)).alloc (.cells #[.slice (some ⟨w1.heap.size, 0, none⟩) 4 4, .slice (some ⟨w1.heap.size + 1, 0, none⟩) 4 4, .slice (some ⟨w1.heap.size + 1 + 1, 0, none⟩) 4 4] 23)) br (k0 + 1) := (((hr1.alloc _).alloc _).alloc _).alloc _
    have g0 : ((((w1.alloc (.cells #[.int .i64 1, .int .i64 0, .int .i64 2, .int .i64 1, .int .i64 3, .int .i64 1, .int .i64 1, .int .i64 2] 40)).alloc (.cells #[.int .i64 2, .int .i64 1, .int .i64 1, .int .i64 2, .int .i64 1, .int .i64 3, .int .i64 1, .int .i64 (-2)] 40)).alloc (.cells #[.int .i64 1, .int .i64 0, .int .i64 2, .int .i64 1, .int .i64 1, .int .i64 (-2), .int .i64 3, .int .i64 1] 40)).alloc (.cells #[.slice (some ⟨w1.heap.size, 0, none⟩) 4 4, .slice (some ⟨w1.heap.size + 1, 0, none⟩) 4 4, .slice (some ⟨w1.heap.size + 1 + 1, 0, none⟩) 4 4] 23)).heap[w1.heap.size]? = some (.cells #[.int .i64 1, .int .i64 0, .int .i64 2, .int .i64 1, .int .i64 3, .int .i64 1, .int .i64 1, .int .i64 2] 40 (0, 0)) := (Below.heap_alloc _ _ _ side_).trans ((Below.heap_alloc _ _ _ side_).trans ((Below.heap_alloc _ _ _ (by simp)).trans (heap_alloc_last w1 _)))
    have g1 : ((((w1.alloc (.cells #[.int .i64 1, .int .i64 0, .int .i64 2, .int .i64 1, .int .i64 3, .int .i64 1, .int .i64 1, .int .i64 2] 40)).alloc (.cells #[.int .i64 2, .int .i64 1, .int .i64 1, .int .i64 2, .int .i64 1, .int .i64 3, .int .i64 1, .int .i64 (-2)] 40)).alloc (.cells #[.int .i64 1, .int .i64 0, .int .i64 2, .int .i64 1, .int .i64 1, .int .i64 (-2), .int .i64 3, .int .i64 1] 40)).alloc (.cells #[.slice (some ⟨w1.heap.size, 0, none⟩) 4 4, .slice (some ⟨w1.heap.size + 1, 0, none⟩) 4 4, .slice (some ⟨w1.heap.size + 1 + 1, 0, none⟩) 4 4] 23)).heap[w1.heap.size + 1]? = some (.cells #[.int .i64 2, .int .i64 1, .int .i64 1, .int .i64 2, .int .i64 1, .int .i64 3, .int .i64 1, .int .i64 (-2)] 40 (0, 0)) := by
      refine (Below.heap_alloc _ _ _ side_).trans ((Below.heap_alloc _ _ _ (by simp)).trans ?_)
      have := heap_alloc_last (w1.alloc (.cells #[.int .i64 1, .int .i64 0, .int .i64 2, .int .i64 1, .int .i64 3, .int .i64 1, .int .i64 1, .int .i64 2] 40)) (.cells #[.int .i64 2, .int .i64 1, .int .i64 1, .int .i64 2, .int .i64 1, .int .i64 3, .int .i64 1, .int .i64 (-2)] 40)
      rwa [World.size_alloc] at this
    have g2 : ((((w1.alloc (.cells #[.int .i64 1, .int .i64 0, .int .i64 2, .int .i64 1, .int .i64 3, .int .i64 1, .int .i64 1, .int .i64 2] 40)).alloc (.cells #[.int .i64 2, .int .i64 1, .int .i64 1, .int .i64 2, .int .i64 1, .int .i64 3, .int .i64 1, .int .i64 (-2)] 40)).alloc (.cells #[.int .i64 1, .int .i64 0, .int .i64 2, .int .i64 1, .int .i64 1, .int .i64 (-2), .int .i64 3, .int .i64 1] 40)).alloc (.cells #[.slice (some ⟨w1.heap.size, 0, none⟩) 4 4, .slice (some ⟨w1.heap.size + 1, 0, none⟩) 4 4, .slice (some ⟨w1.heap.size + 1 + 1, 0, none⟩) 4 4] 23)).heap[w1.heap.size + 1 + 1]? = some (.cells #[.int .i64 1, .int .i64 0, .int .i64 2, .int .i64 1, .int .i64 1, .int .i64 (-2), .int .i64 3, .int .i64 1] 40 (0, 0)) := by
      refine (Below.heap_alloc _ _ _ (by simp)).trans ?_
      have := heap_alloc_last ((w1.alloc (.cells #[.int .i64 1, .int .i64 0, .int .i64 2, .int .i64 1, .int .i64 3, .int .i64 1, .int .i64 1, .int .i64 2] 40)).alloc (.cells #[.int .i64 2, .int .i64 1, .int .i64 1, .int .i64 2, .int .i64 1, .int .i64 3, .int .i64 1, .int .i64 (-2)] 40)) (.cells #[.int .i64 1, .int .i64 0, .int .i64 2, .int .i64 1, .int .i64 1, .int .i64 (-2), .int .i64 3, .int .i64 1] 40)
      rwa [World.size_alloc, World.size_alloc] at this
    have g3 : ((((w1.alloc (.cells #[.int .i64 1, .int .i64 0, .int .i64 2, .int .i64 1, .int .i64 3, .int .i64 1, .int .i64 1, .int .i64 2] 40)).alloc (.cells #[.int .i64 2, .int .i64 1, .int .i64 1, .int .i64 2, .int .i64 1, .int .i64 3, .int .i64 1, .int .i64 (-2)] 40)).alloc (.cells #[.int .i64 1, .int .i64 0, .int .i64 2, .int .i64 1, .int .i64 1, .int .i64 (-2), .int .i64 3, .int .i64 1] 40)).alloc (.cells #[.slice (some ⟨w1.heap.size, 0, none⟩) 4 4, .slice (some ⟨w1.heap.size + 1, 0, none⟩) 4 4, .slice (some ⟨w1.heap.size + 1 + 1, 0, none⟩) 4 4] 23)).heap[w1.heap.size + 1 + 1 + 1]? = some (.cells #[.slice (some ⟨w1.heap.size, 0, none⟩) 4 4, .slice (some ⟨w1.heap.size + 1, 0, none⟩) 4 4, .slice (some ⟨w1.heap.size + 1 + 1, 0, none⟩) 4 4] 23 (0, 0)) := by
      have := heap_alloc_last (((w1.alloc (.cells #[.int .i64 1, .int .i64 0, .int .i64 2, .int .i64 1, .int .i64 3, .int .i64 1, .int .i64 1, .int .i64 2] 40)).alloc (.cells #[.int .i64 2, .int .i64 1, .int .i64 1, .int .i64 2, .int .i64 1, .int .i64 3, .int .i64 1, .int .i64 (-2)] 40)).alloc (.cells #[.int .i64 1, .int .i64 0, .int .i64 2, .int .i64 1, .int .i64 1, .int .i64 (-2), .int .i64 3, .int .i64 1] 40)) (.cells #[.slice (some ⟨w1.heap.size, 0, none⟩) 4 4, .slice (some ⟨w1.heap.size + 1, 0, none⟩) 4 4, .slice (some ⟨w1.heap.size + 1 + 1, 0, none⟩) 4 4] 23)
      rwa [World.size_alloc, World.size_alloc, World.size_alloc] at this
    have hX4 : BelX w.heap.size br w ((((w1.alloc (.cells #[.int .i64 1, .int .i64 0, .int .i64 2, .int .i64 1, .int .i64 3, .int .i64 1, .int .i64 1, .int .i64 2] 40)).alloc (.cells #[.int .i64 2, .int .i64 1, .int .i64 1, .int .i64 2, .int .i64 1, .int .i64 3, .int .i64 1, .int .i64 (-2)] 40)).alloc (.cells #[.int .i64 1, .int .i64 0, .int .i64 2, .int .i64 1, .int .i64 1, .int .i64 (-2), .int .i64 3, .int .i64 1] 40)).alloc (.cells #[.slice (some ⟨w1.heap.size, 0, none⟩) 4 4, .slice (some ⟨w1.heap.size + 1, 0, none⟩) 4 4, .slice (some ⟨w1.heap.size + 1 + 1, 0, none⟩) 4 4] 23)) := (((hX1.alloc hz1 _).alloc side_ _).alloc side_ _).alloc side_ _
    have hl1 := hr1.lt
    go_wp2_with (go_at_call 22; (with_reducible refine (pick_any 3 br _ (RdEx.of hr4 (by omega)) (by omega) (by omega)).mono ?_); rintro e w2 ⟨y, rfl, ⟨hu, hX⟩, hy0, hy1⟩; refine Hid.out ?_)
    refine Lib.hid ?_
    have hr2 := hu _ hr4
    have hX2 : BelX w.heap.size br w w2 := BelX.step hX4 hX hX4.size
    have k0' := (hX.block _ side_ (by omega)).trans g0
    have k1' := (hX.block _ side_ (by omega)).trans g1
    have k2' := (hX.block _ side_ (by omega)).trans g2
    have k3' := (hX.block _ (by simp) (by omega)).trans g3
    have c0 : w2.cell? ⟨w1.heap.size + 1 + 1 + 1, 0, none⟩ = some (.slice (some ⟨w1.heap.size, 0, none⟩) 4 4) := by simp [World.cell?, k3']
    have c1 : w2.cell? ⟨w1.heap.size + 1 + 1 + 1, 1, none⟩ = some (.slice (some ⟨w1.heap.size + 1, 0, none⟩) 4 4) := by simp [World.cell?, k3']
    have c2 : w2.cell? ⟨w1.heap.size + 1 + 1 + 1, 2, none⟩ = some (.slice (some ⟨w1.heap.size + 1 + 1, 0, none⟩) 4 4) := by simp [World.cell?, k3']
    clear hu hX g0 g1 g2 g3 k3' hX4 hr4
    rcases (show y = 0 ∨ y = 1 ∨ y = 2 by omega) with rfl | rfl | rfl
    · go_wp2
      go_ret
      exact ⟨[⟨1, 0⟩, ⟨2, 1⟩, ⟨3, 1⟩, ⟨1, 2⟩], _, rfl, ⟨OwA.lit (xs := [⟨1, 0⟩, ⟨2, 1⟩, ⟨3, 1⟩, ⟨1, 2⟩]) k0' (by omega) (by decide), by decide⟩, drw_mk hmin (hr2.mono (by omega)) hX2⟩
    · go_wp2
      go_ret
      exact ⟨[⟨2, 1⟩, ⟨1, 2⟩, ⟨1, 3⟩, ⟨1, (-2)⟩], _, rfl, ⟨OwA.lit (xs := [⟨2, 1⟩, ⟨1, 2⟩, ⟨1, 3⟩, ⟨1, (-2)⟩]) k1' (by omega) (by decide), by decide⟩, drw_mk hmin (hr2.mono (by omega)) hX2⟩
    · go_wp2
      go_ret
      exact ⟨[⟨1, 0⟩, ⟨2, 1⟩, ⟨1, (-2)⟩, ⟨3, 1⟩], _, rfl, ⟨OwA.lit (xs := [⟨1, 0⟩, ⟨2, 1⟩, ⟨1, (-2)⟩, ⟨3, 1⟩]) k2' (by omega) (by decide), by decide⟩, drw_mk hmin (hr2.mono (by omega)) hX2⟩
  · have hO0 := OwA.made w1 w.heap.size hz1
    have hr0 := hr1.alloc (.cells #[] 40)
    have hX0 : BelX w.heap.size br w (w1.alloc (.cells #[] 40)) := hX1.alloc hz1 _
    go_wp2_with (go_at_call 22; (with_reducible refine (pick_any 3 br _ (RdEx.of hr0 (by omega)) (by omega) (by omega)).mono ?_); rintro e w2 ⟨n, rfl, ⟨hu, hX⟩, hn0, hn1⟩; refine Hid.out ?_)
    refine Lib.hid ?_
    have hr2 := hu _ hr0
    have hO2 := hO0.belX hX hlt
    have hX2 : BelX w.heap.size br w w2 := BelX.step hX0 hX hX0.size
    clear hu hX hO0 hX0 hr0 hr1 hX1 hz1
    go_wp2
    go_loopw [3, 5] (fun v i wr => ∃ (k : Nat) (out : List Sta), (k : Int) ≤ 3 + n ∧ i = .int .i64 k ∧ out.length = k ∧ OwA w.heap.size v out wr ∧ RdIs wr br (k0 + 1 + 1 + 3 * k) ∧ BelX w.heap.size br w wr) (fun _ i _ => 5 - (intOf i).toNat)
    case atStart => exact ⟨0, [], by omega, rfl, rfl, hO2, hr2, hX2⟩
    case round =>
      clear hO2 hr2 hX2
      obtain ⟨k, out, hk, rfl, hol, hO, hr, hX⟩ := hrel
      have hz := hX.size
      by_cases hkn : (k : Int) < 3 + n
      · go_wp2_with (go_at_call 60; (with_reducible refine (dstation_any br _ (RdEx.of hr (by omega))).mono ?_); rintro e w3 ⟨s, rfl, ⟨hu, hx⟩, -⟩; refine Hid.out ?_)
        refine Lib.hid ?_
        have hr3 := hu _ hr
        have hO3 := hO.belX hx hlt
        have hX3 : BelX w.heap.size br w w3 := BelX.step hX hx hz
        have hz3 := hX3.size
        have hol2 := Lib.hid hol
        have hl4 : out.length < 4000000 := by omega
        clear hu hx hO hr hX hol
        go_wp2_with (at_builtin; refine append_sta rfl (.tmp 38) (.tmp 41) rfl w.heap.size _ _ _ (by rfl) hO3 s (by rfl) hl4 hz3 ?_; intro v2 w4 hO4 hg4; refine Hid.out ?_)
        refine Lib.hid ?_
        have hL : Below w.heap.size w3 w4 := (Below.refl w.heap.size w3).grown hg4 hz3 (fun k hk => (hO3.lt k hk).1)
        have hr4 := hr3.below hL hlt
        have hX4 : BelX w.heap.size br w w4 := hX3.trans (BelX.of hL)
        clear hg4 hO3 hr3 hL
        go_wp2
        go_roundw
        case rel => exact ⟨k + 1, out ++ [s], by omega, by go_num, by simp [hol2.out], hO4, hr4.mono (by omega), hX4⟩
        case measure => simp [intOf]; omega
      · go_wp2
        go_ret
        exact ⟨out, _, rfl, ⟨hO, by omega⟩, drw_mk hmin (hr.mono (by omega)) hX⟩
end
end Go.Proofs.YtodhbkinbcemnaaGreatDoor
