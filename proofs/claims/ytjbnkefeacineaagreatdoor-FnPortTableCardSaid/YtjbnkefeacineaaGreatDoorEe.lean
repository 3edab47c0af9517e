/-
  The walks of the drawers of benches, of both arms and of what the port statements ask: any two short texts, some phase, any vector.
-/
import Derived.Test.YtjbnkefeacineaaGreatDoorEd
import Derived.Test.YtjbnkefeacineaaGreatDoorJc
namespace Go.Proofs.YtjbnkefeacineaaGreatDoor
set_option linter.unusedSimpArgs false
set_option linter.unusedVariables false
open Go.RowKit
attribute [local go_sem ↓] Go.wp_at_zero Go.wp_at_succ
theorem jc_wide {W : World} {b o : Nat} {a : Jn} {ty : TypeId} {x : Int} (h : Blk W b (jc a) ty) : W.cell? ⟨b, o, none⟩ ≠ some (.int .u8 x) := by
  intro e
  have e2 : (jc a)[o]? = some (.int .u8 x) := by simpa [World.cell?, h] using e
  match o with
  | 0 => simp [jc] at e2
  | 1 => simp [jc] at e2
  | 2 => simp [jc] at e2
  | 3 => simp [jc] at e2
  | 4 => simp [jc] at e2
  | 5 => simp [jc] at e2
  | n + 6 => simp [jc] at e2
theorem RdIs.six {w : World} {br k b : Nat} {a : Jn} {ty : TypeId} (h : RdIs w br k) (hb : Blk w b (jc a) ty) (hne : br ≠ b) (v : Jn) : RdIs (set6 w b v) br k := by
  obtain ⟨A, len, cap, p, h1, h2, h3, h4⟩ := h
  refine ⟨A, len, cap, p, h1, h2, (far6 hne).trans h3, fun h0 => ?_⟩
  obtain ⟨bb, off, e, hbb, hc⟩ := h4 h0
  have hn : bb ≠ b := by
    rintro rfl
    obtain ⟨x, hx, -⟩ := hc 0 h0
    exact jc_wide hb hx
  refine ⟨bb, off, e, hbb, fun i hi => ?_⟩
  obtain ⟨x, hx, k0, k1⟩ := hc i hi
  exact ⟨x, (World.cell?_of_block (w := w) (far6 (W := w) (u := v) hn)).trans hx, k0, k1⟩
set_option maxRecDepth 100000 in
set_option maxHeartbeats 4000000 in
theorem dof_any (br g : Nat) (cs : Array Value) (t : TypeId) (w : World) (hr : RdEx 1 w br) (hb : w.heap[g]? = some (.cells cs t (0, 0))) (hne : g ≠ br) (hs : ∀ i, i < 8 → ∃ s : ByteArray, cs[i]? = some (.string s) ∧ s.size ≤ 8) :
    Calls Tryz.prog 118 #[.pointer (some ⟨br, 0, none⟩), .slice (some ⟨g, 0, none⟩) 8 8] w fun e w' => ∃ s : ByteArray, e = .returned (.string s) ∧ Drw 1 br w w' ∧ s.size ≤ 8 := by
  obtain ⟨k0, hr0, hmin, hk0⟩ := hr.min
  have hX0 := BelX.refl w.heap.size br w
  have hgl : g < w.heap.size := (Array.getElem?_eq_some_iff.1 hb).1
  clear hr
  have HS := Lib.hid hs
  clear hs
  go_enter Tryz.func118, Tryz.ntmps118
  go_wp2_with (go_at_call 66; (with_reducible refine (pick_any 8 br _ (RdEx.of hr0 (by omega)) (by omega) (by omega)).mono ?_); rintro e w1 ⟨x, rfl, ⟨hu, hx⟩, x0, x1⟩; refine Hid.out ?_)
  refine Lib.hid ?_
  have hr1 := hu _ hr0
  have hB1 := (hx.block g hgl hne).trans hb
  have hX1 := BelX.step hX0 hx hX0.size
  clear hu hx hr0 hX0 hb
  have hcell : ∀ (i : Nat) (s : ByteArray), cs[i]? = some (.string s) → w1.cell? ⟨g, i, none⟩ = some (.string s) := fun i s h => by simp [World.cell?, hB1, h]
  obtain ⟨n, rfl⟩ := Int.eq_ofNat_of_zero_le x0
  obtain ⟨s, hs1, hs2⟩ := HS.out n (by omega)
  have hc := hcell n s hs1
  clear hcell hs1 hB1
  rcases (show n = 0 ∨ n = 1 ∨ n = 2 ∨ n = 3 ∨ n = 4 ∨ n = 5 ∨ n = 6 ∨ n = 7 by omega) with rfl | rfl | rfl | rfl | rfl | rfl | rfl | rfl
  all_goals (go_wp2; go_ret; exact ⟨s, rfl, drw_mk hmin (hr1.mono (by omega)) hX1, hs2⟩)
set_option maxRecDepth 100000 in
set_option maxHeartbeats 4000000 in
theorem dbench_any (br : Nat) (w : World) (hr : RdEx 28 w br) :
    Calls Tryz.prog 82 #[.pointer (some ⟨br, 0, none⟩), .bool false] w fun e w' => ∃ s : ByteArray, e = .returned (.string s) ∧ Drw 28 br w w' ∧ s.size ≤ 100 := by
  obtain ⟨k0, hr0, hmin, hk0⟩ := hr.min
  have hlt := hr0.lt
  have hX0 := BelX.refl w.heap.size br w
  clear hr
  go_enter Tryz.func82, Tryz.ntmps82
  go_wp2_with (go_at_call 66; (with_reducible refine (pick_any 4 br _ (RdEx.of hr0 (by omega)) (by omega) (by omega)).mono ?_); rintro e w1 ⟨n, rfl, ⟨hu, hx⟩, n0, n1⟩; refine Hid.out ?_)
  refine Lib.hid ?_
  have hr1 := hu _ hr0
  have hX1 := BelX.step hX0 hx hX0.size
  clear hu hx hr0 hX0
  go_wp2
  go_loopw [5, 7] (fun s i wr => ∃ (k : Nat) (t : ByteArray), (k : Int) ≤ n ∧ i = .int .i64 k ∧ s = .string t ∧ t.size ≤ 21 * k ∧ RdIs wr br (k0 + 1 + 8 * k) ∧ BelX w.heap.size br w wr) (fun _ i _ => 4 - (intOf i).toNat)
  case atStart => exact ⟨0, _, by omega, rfl, rfl, by decide, hr1, hX1⟩
  case round =>
    clear hr1 hX1
    obtain ⟨k, t, hk, rfl, rfl, ht, hr2, hX2⟩ := hrel
    by_cases hkn : (k : Int) < n
    · by_cases hk0' : (0 : Int) < (k : Int)
      · go_wp2_with (go_at_call 117; (with_reducible refine (dpiece_any br _ (RdEx.of hr2 (by omega))).mono ?_); rintro e w3 ⟨p, rfl, ⟨hu, hx⟩, pz⟩; refine Hid.out ?_)
        refine Lib.hid ?_
        have hr3 := hu _ hr2
        have hX3 := BelX.step hX2 hx hX2.size
        clear hu hx hr2 hX2
        go_wp2
        go_roundw
        case rel => exact ⟨k + 1, _, by omega, by go_num, rfl, by simp [ByteArray.size_append, bsize1]; omega, hr3.mono (by omega), hX3⟩
        case measure => simp [intOf]; omega
      · go_wp2_with (go_at_call 117; (with_reducible refine (dpiece_any br _ (RdEx.of hr2 (by omega))).mono ?_); rintro e w3 ⟨p, rfl, ⟨hu, hx⟩, pz⟩; refine Hid.out ?_)
        refine Lib.hid ?_
        have hr3 := hu _ hr2
        have hX3 := BelX.step hX2 hx hX2.size
        clear hu hx hr2 hX2
        go_wp2
        go_roundw
        case rel => exact ⟨k + 1, _, by omega, by go_num, rfl, by simp [ByteArray.size_append, bsize1]; omega, hr3.mono (by omega), hX3⟩
        case measure => simp [intOf]; omega
    · have hr2 := hr2.mono (k' := k0 + 26) (by omega)
      go_wp2_with (go_at_call 66; (with_reducible refine (pick_any 20 br _ (RdEx.of hr2 (by omega)) (by omega) (by omega)).mono ?_); rintro e w3 ⟨x, rfl, ⟨hu, hx⟩, x0, x1⟩; refine Hid.out ?_)
      refine Lib.hid ?_
      have hr3 := hu _ hr2
      have hX3 := BelX.step hX2 hx hX2.size
      clear hu hx hr2 hX2
      by_cases hx0 : x = 0
      · subst hx0
        obtain ⟨k3, hr3, hmin3, hk3⟩ : ∃ k3, RdIs w3 br k3 ∧ k3 ≤ k0 + 27 ∧ True := ⟨_, hr3, by omega, trivial⟩
        go_wp2_with (go_at_call 118; (with_reducible refine (dof_any br _ _ _ _ (RdEx.of (hr3.alloc _) (by omega)) (heap_alloc_last _ _) (by have := hr3.lt; omega) (by intro i hi; rcases (show i = 0 ∨ i = 1 ∨ i = 2 ∨ i = 3 ∨ i = 4 ∨ i = 5 ∨ i = 6 ∨ i = 7 by omega) with rfl | rfl | rfl | rfl | rfl | rfl | rfl | rfl <;> exact ⟨_, rfl, by decide⟩)).mono ?_); rintro e w4 ⟨q, rfl, ⟨hu, hx⟩, qz⟩; have hr4 := hu _ (hr3.alloc _); have hX4 := BelX.step (hX3.alloc hX3.size _) hx (by have := hX3.size; simp; omega); clear hu hx; refine Hid.out ?_)
        refine Lib.hid ?_
        go_wp2
        go_ret
        exact ⟨_, rfl, drw_mk hmin (hr4.mono (by omega)) hX4, by simp [ByteArray.size_append, bsize1]; omega⟩
      · go_wp2
        go_ret
        exact ⟨_, rfl, drw_mk hmin (hr3.mono (by omega)) hX3, by omega⟩
set_option maxRecDepth 100000 in
set_option maxHeartbeats 4000000 in
theorem darms_any (br : Nat) (w : World) (hr : RdEx 90 w br) :
    Calls Tryz.prog 49 #[.pointer (some ⟨br, 0, none⟩)] w fun e w' => ∃ (a b : ByteArray) (k : Int) (v : Jn), e = .returned (.tuple #[.string a, .string b, .int .i64 k, jnv v]) ∧ Drw 90 br w w' ∧ a.size ≤ 100 ∧ b.size ≤ 100 := by
  obtain ⟨k0, hr00, hmin, hk0⟩ := hr.min
  have hlt := hr00.lt
  have hX0 : BelX w.heap.size br w (w.alloc (.cells #[.int .i64 0, .int .i64 0, .int .i64 0, .int .i64 0, .int .i64 0, .int .i64 0] 26)) := (BelX.refl _ _ _).alloc (Nat.le_refl _) _
  have hr0 := hr00.alloc (.cells #[.int .i64 0, .int .i64 0, .int .i64 0, .int .i64 0, .int .i64 0, .int .i64 0] 26)
  have hJ : JnF (w.alloc (.cells #[.int .i64 0, .int .i64 0, .int .i64 0, .int .i64 0, .int .i64 0, .int .i64 0] 26)) w.heap.size zJ := JnF.new w zJ 26
  clear hr hr00
  go_enter Tryz.func49, Tryz.ntmps49
  go_wp2_with (go_at_call 82; (with_reducible refine (dbench_any br _ (RdEx.of hr0 (by omega))).mono ?_); rintro e w1 ⟨a, rfl, ⟨hu, hx⟩, az⟩; refine Hid.out ?_)
  refine Lib.hid ?_
  have hr1 := hu _ hr0
  have hJ := hJ.belX hx hJ.1.lt (by omega)
  have hX1 := BelX.step hX0 hx hX0.size
  clear hu hx hr0 hX0
  go_wp2_with (go_at_call 82; (with_reducible refine (dbench_any br _ (RdEx.of hr1 (by omega))).mono ?_); rintro e w2 ⟨b, rfl, ⟨hu, hx⟩, bz⟩; refine Hid.out ?_)
  refine Lib.hid ?_
  have hr2 := hu _ hr1
  have hJ := hJ.belX hx hJ.1.lt (by omega)
  have hX2 := BelX.step hX1 hx hX1.size
  clear hu hx hr1 hX1
  go_wp2_with (go_at_call 66; (with_reducible refine (pick_any 4 br _ (RdEx.of hr2 (by omega)) (by omega) (by omega)).mono ?_); rintro e w3 ⟨c, rfl, ⟨hu, hx⟩, c0, c1⟩; refine Hid.out ?_)
  refine Lib.hid ?_
  have hr3 := hu _ hr2
  have hJ := hJ.belX hx hJ.1.lt (by omega)
  have hX3 := BelX.step hX2 hx hX2.size
  clear hu hx hr2 hX2
  by_cases hc : c = 0
  · go_wp2_with (go_at_call 66; (with_reducible refine (pick_any 4 br _ (RdEx.of hr3 (by omega)) (by omega) (by omega)).mono ?_); rintro e w4 ⟨x, rfl, ⟨hu, hx⟩, x0, x1⟩; refine Hid.out ?_)
    refine Lib.hid ?_
    have hr4 := hu _ hr3
    have hJ := hJ.belX hx hJ.1.lt (by omega)
    have hX4 := BelX.step hX3 hx hX3.size
    clear hu hx hr3 hX3
    go_wp2_with (go_at_call 66; (with_reducible refine (pick_any 20 br _ (RdEx.of hr4 (by omega)) (by omega) (by omega)).mono ?_); rintro e w5 ⟨y, rfl, ⟨hu, hx⟩, y0, y1⟩; refine Hid.out ?_)
    refine Lib.hid ?_
    have hr5 := hu _ hr4
    have hJ := hJ.belX hx hJ.1.lt (by omega)
    have hX5 := BelX.step hX4 hx hX4.size
    clear hu hx hr4 hX4
    have e0 := Int.tdiv_nonneg y0 (show (0 : Int) ≤ 19 by omega)
    have e3 : Int.tdiv y 19 ≤ 1 := by rw [Int.tdiv_eq_ediv_of_nonneg y0]; omega
    obtain ⟨q, hq⟩ : ∃ q, Int.tdiv y 19 = q := ⟨_, rfl⟩
    have e1 : IntKind.i64.wrap (x + q) = x + q := IntWalk.i64_in _ (by omega)
    have e2 : wrap64 (x + q) = x + q := by unfold wrap64; omega
    have e4 : IntKind.i64.wrap q = q := IntWalk.i64_in _ (by omega)
    have e5 : wrap64 q = q := by unfold wrap64; omega
    go_wp2_with (go_at_call 83; (with_reducible refine (djones_any br _ (RdEx.of hr5 (by omega))).mono ?_); rintro e w6 ⟨v, rfl, ⟨hu, hx⟩, -⟩; refine Hid.out ?_)
    refine Lib.hid ?_
    have hr6 := hu _ hr5
    have hJ := hJ.belX hx hJ.1.lt (by omega)
    have hX6 := BelX.step hX5 hx hX5.size
    clear hu hx hr5 hX5
    obtain ⟨⟨z0, z1, z2, z3, z4, z5⟩, hfz⟩ := hJ
    unfold FreeB at hfz
    clear e0 e1 e2 e3 e4 e5 hq
    go_wp2
    refine bodyPost_ret (v := .tuple #[.string a, .string a, .int .i64 (x + q), jnv v]) (by simp [results, Tryz.results49, go_sem, *]) rfl ⟨a, a, x + q, v, rfl, drw_mk hmin ?_ ?_, az, az⟩
    · exact RdIs.mono (by exact rd_) (by omega)
    · (repeat' (first | (with_reducible exact BelX.refl _ _ _) | (with_reducible assumption) | (with_reducible exact BelX.of ‹_›) | (with_reducible refine BelX.setCell ?_ (by first | omega | (simp; done) | (simp; omega)) _) | (with_reducible refine BelX.setSum ?_ _) | (with_reducible refine BelX.alloc ?_ (by first | omega | (simp; done) | (simp; omega)) _) | (with_reducible refine BelX.drewN ?_ _) | (with_reducible refine BelX.drew ?_)))
  · go_wp2_with (go_at_call 66; (with_reducible refine (pick_any 4 br _ (RdEx.of hr3 (by omega)) (by omega) (by omega)).mono ?_); rintro e w4 ⟨x, rfl, ⟨hu, hx⟩, x0, x1⟩; refine Hid.out ?_)
    refine Lib.hid ?_
    have hr4 := hu _ hr3
    have hJ := hJ.belX hx hJ.1.lt (by omega)
    have hX4 := BelX.step hX3 hx hX3.size
    clear hu hx hr3 hX3
    go_wp2_with (go_at_call 66; (with_reducible refine (pick_any 20 br _ (RdEx.of hr4 (by omega)) (by omega) (by omega)).mono ?_); rintro e w5 ⟨y, rfl, ⟨hu, hx⟩, y0, y1⟩; refine Hid.out ?_)
    refine Lib.hid ?_
    have hr5 := hu _ hr4
    have hJ := hJ.belX hx hJ.1.lt (by omega)
    have hX5 := BelX.step hX4 hx hX4.size
    clear hu hx hr4 hX4
    have e0 := Int.tdiv_nonneg y0 (show (0 : Int) ≤ 19 by omega)
    have e3 : Int.tdiv y 19 ≤ 1 := by rw [Int.tdiv_eq_ediv_of_nonneg y0]; omega
    obtain ⟨q, hq⟩ : ∃ q, Int.tdiv y 19 = q := ⟨_, rfl⟩
    have e1 : IntKind.i64.wrap (x + q) = x + q := IntWalk.i64_in _ (by omega)
    have e2 : wrap64 (x + q) = x + q := by unfold wrap64; omega
    have e4 : IntKind.i64.wrap q = q := IntWalk.i64_in _ (by omega)
    have e5 : wrap64 q = q := by unfold wrap64; omega
    go_wp2_with (go_at_call 83; (with_reducible refine (djones_any br _ (RdEx.of hr5 (by omega))).mono ?_); rintro e w6 ⟨v, rfl, ⟨hu, hx⟩, -⟩; refine Hid.out ?_)
    refine Lib.hid ?_
    have hr6 := hu _ hr5
    have hJ := hJ.belX hx hJ.1.lt (by omega)
    have hX6 := BelX.step hX5 hx hX5.size
    clear hu hx hr5 hX5
    obtain ⟨⟨z0, z1, z2, z3, z4, z5⟩, hfz⟩ := hJ
    unfold FreeB at hfz
    clear e0 e1 e2 e3 e4 e5 hq
    go_wp2
    refine bodyPost_ret (v := .tuple #[.string a, .string b, .int .i64 (x + q), jnv v]) (by simp [results, Tryz.results49, go_sem, *]) rfl ⟨a, b, x + q, v, rfl, drw_mk hmin ?_ ?_, az, bz⟩
    · exact RdIs.mono (by exact rd_) (by omega)
    · (repeat' (first | (with_reducible exact BelX.refl _ _ _) | (with_reducible assumption) | (with_reducible exact BelX.of ‹_›) | (with_reducible refine BelX.setCell ?_ (by first | omega | (simp; done) | (simp; omega)) _) | (with_reducible refine BelX.setSum ?_ _) | (with_reducible refine BelX.alloc ?_ (by first | omega | (simp; done) | (simp; omega)) _) | (with_reducible refine BelX.drewN ?_ _) | (with_reducible refine BelX.drew ?_)))
set_option maxRecDepth 100000 in
set_option maxHeartbeats 4000000 in
theorem drawPortVector_any (A : Option Addr) (len cap : Nat) (w : World) (hby : Bytes A len cap w) :
    Calls Tryz.prog 28 #[.slice A len cap] w fun e w' => ∃ (a b : ByteArray) (k : Int) (v : Jn) (s : Bool), e = .returned (.tuple #[.string a, .string b, .int .i64 k, jnv v, .bool s]) ∧ Below w.heap.size w w' ∧ a.size ≤ 100 ∧ b.size ≤ 100 := by
  have hB0 : Below w.heap.size w (w.alloc (.cells #[.int .i64 0, .int .i64 0, .int .i64 0, .int .i64 0, .int .i64 0, .int .i64 0] 26)) := (Below.refl _ _).alloc (Nat.le_refl _) _
  go_enter Tryz.func28, Tryz.ntmps28
  go_wp2_with (go_at_call 50; (with_reducible refine (openB A len cap _ (w.heap.size + 1) (by simp) (hby.below ((Below.refl _ _).alloc (Nat.le_refl _) _))).mono ?_); rintro e w1 ⟨rfl, hr1, hb⟩; refine Hid.out ?_)
  refine Lib.hid ?_
  have hlt := hr1.lt
  have hJ : JnF w1 w.heap.size zJ := (JnF.new w zJ 26).below hb (by simp)
  have hB : Below w.heap.size w w1 := bstep hB0 hb (by simp)
  have hJB : Blk w1 w.heap.size (jc zJ) 26 := (hb.block _ (by simp)).trans (heap_alloc_last w _)
  clear hb hB0
  go_wp2_with (go_at_call 49; (with_reducible refine (darms_any (w.heap.size + 1) _ (RdEx.of hr1 (by omega))).mono ?_); rintro e w2 ⟨a, b, k, v, rfl, ⟨hu, hx⟩, az, bz⟩; refine Hid.out ?_)
  refine Lib.hid ?_
  have hr2 := hu _ hr1
  have hJB := (hx.block _ (blk_lt hJB) (by omega)).trans hJB
  have hJ := hJ.belX hx hJ.1.lt (by omega)
  have hX2 : BelX w.heap.size (w.heap.size + 1) w w2 := BelX.step (BelX.of hB) hx hB.size
  have hz2 := hX2.size
  have hz12 := hx.size
  clear hu hx hr1 hB
  have hV : Blk (w2.alloc (.cells #[.int .i64 v.x.re, .int .i64 v.x.im, .int .i64 v.x.den, .int .i64 v.y.re, .int .i64 v.y.im, .int .i64 v.y.den] 26)) w2.heap.size (jc v) 26 := heap_alloc_last w2 _
  have hJ : Blk (w2.alloc (.cells #[.int .i64 v.x.re, .int .i64 v.x.im, .int .i64 v.x.den, .int .i64 v.y.re, .int .i64 v.y.im, .int .i64 v.y.den] 26)) w.heap.size (jc zJ) 26 := (Below.heap_alloc _ _ _ (by have := hJ.1.lt; omega)).trans hJB
  have hr2 := hr2.alloc (.cells #[.int .i64 v.x.re, .int .i64 v.x.im, .int .i64 v.x.den, .int .i64 v.y.re, .int .i64 v.y.im, .int .i64 v.y.den] 26)
  have hX2 : BelX w.heap.size (w.heap.size + 1) w (w2.alloc (.cells #[.int .i64 v.x.re, .int .i64 v.x.im, .int .i64 v.x.den, .int .i64 v.y.re, .int .i64 v.y.im, .int .i64 v.y.den] 26)) := hX2.alloc hz2 _
  have hbr2 : w.heap.size + 1 < w2.heap.size := by omega
  clear hJB
  go_upto_region 3 with fail
  obtain ⟨W, hW⟩ : ∃ W, W = w2.alloc (.cells #[.int .i64 v.x.re, .int .i64 v.x.im, .int .i64 v.x.den, .int .i64 v.y.re, .int .i64 v.y.im, .int .i64 v.y.den] 26) := ⟨_, rfl⟩
  rw [← hW] at hV hJ hr2 hX2 ⊢
  clear hW
  obtain ⟨bv, hbv⟩ : ∃ b, b = w2.heap.size := ⟨_, rfl⟩
  rw [← hbv] at hV hbr2 ⊢
  clear hbv
  have hbvl := blk_lt hV
  have hj0 := blk_lt hJ
  obtain ⟨⟨p0, p1, p2, p3, p4, p5⟩, -⟩ := blk_j hV
  obtain ⟨⟨z0, z1, z2, z3, z4, z5⟩, y0, y1, y2, y3, y4, y5⟩ := blk_j hJ
  have hX2d : BelX w.heap.size (w.heap.size + 1) w W.drew := by exact belx_
  have hrd := (RdEx.of (m := 1) hr2 (by omega)).drew
  have hr6 : RdEx 1 (set6 W.drew w.heap.size v) (w.heap.size + 1) := RdEx.of (RdIs.six (w := W.drew) hr2.drew hJ (by omega) v) (by omega)
  have hX6 : BelX w.heap.size (w.heap.size + 1) w (set6 W.drew w.heap.size v) := (((((hX2d.setCell (by simp) _).setCell (by simp) _).setCell (by simp) _).setCell (by simp) _).setCell (by simp) _).setCell (by simp) _
  have hJ6 := blk_set6 (W := W.drew) hJ v
  have hz6 := hX6.size
  have hj6 := blk_lt hJ6
  go_region_with (first | (go_at_call 66; (with_reducible refine (pick_any 2 (w.heap.size + 1) _ hrd (by omega) (by omega)).mono ?_); rintro e w3 ⟨x, rfl, ⟨-, hx⟩, x0, x1⟩; have hJ3 := (hx.block _ hj0 (by omega)).trans hJ; have hV3 := (hx.block _ hbvl (by omega)).trans hV; have hX3 : BelX w.heap.size (w.heap.size + 1) w w3 := BelX.step hX2d hx hX2d.size; obtain ⟨⟨q0, q1, q2, q3, q4, q5⟩, -⟩ := blk_j hV3; obtain ⟨⟨r0, r1, r2, r3, r4, r5⟩, s0, s1, s2, s3, s4, s5⟩ := blk_j hJ3; have hB3 : Below w.heap.size w w3 := hX3.below (Nat.le_succ _); have hj3 := blk_lt hJ3; clear hx hX3 hV3 hJ3) | (go_at_call 66; (with_reducible refine (pick_any 2 (w.heap.size + 1) _ hr6 (by omega) (by omega)).mono ?_); rintro e w3 ⟨x, rfl, ⟨-, hx⟩, x0, x1⟩; have hJ3 := (hx.block _ hj6 (by omega)).trans hJ6; have hX3 : BelX w.heap.size (w.heap.size + 1) w w3 := BelX.step hX6 hx hz6; obtain ⟨⟨r0, r1, r2, r3, r4, r5⟩, s0, s1, s2, s3, s4, s5⟩ := blk_j hJ3; have hB3 : Below w.heap.size w w3 := hX3.below (Nat.le_succ _); have hj3 := blk_lt hJ3; clear hx hX3 hJ3))
  all_goals (
    go_wp2
    refine bodyPost_ret (v := .tuple #[.string a, .string b, .int .i64 k, jnv v, .bool (x == 0)]) (by simp [results, Tryz.results28, go_sem, *]) rfl ⟨a, b, k, v, _, rfl, by exact below_, az, bz⟩)
set_option maxRecDepth 100000 in
set_option maxHeartbeats 4000000 in
theorem drawPortPowers_any (A : Option Addr) (len cap : Nat) (w : World) (hby : Bytes A len cap w) :
    Calls Tryz.prog 33 #[.slice A len cap] w fun e w' => ∃ (a b : ByteArray) (k : Int) (v : Jn), e = .returned (.tuple #[.string a, .string b, .int .i64 k, jnv v]) ∧ Below w.heap.size w w' ∧ a.size ≤ 100 ∧ b.size ≤ 100 := by
  have hB0 : Below w.heap.size w (w.alloc (.cells #[.int .i64 0, .int .i64 0, .int .i64 0, .int .i64 0, .int .i64 0, .int .i64 0] 26)) := (Below.refl _ _).alloc (Nat.le_refl _) _
  go_enter Tryz.func33, Tryz.ntmps33
  go_wp2_with (go_at_call 50; (with_reducible refine (openB A len cap _ (w.heap.size + 1) (by simp) (hby.below ((Below.refl _ _).alloc (Nat.le_refl _) _))).mono ?_); rintro e w1 ⟨rfl, hr1, hb⟩; refine Hid.out ?_)
  refine Lib.hid ?_
  have hlt := hr1.lt
  have hJ : JnF w1 w.heap.size zJ := (JnF.new w zJ 26).below hb (by simp)
  have hB : Below w.heap.size w w1 := bstep hB0 hb (by simp)
  have hJB : Blk w1 w.heap.size (jc zJ) 26 := (hb.block _ (by simp)).trans (heap_alloc_last w _)
  clear hb hB0
  go_wp2_with (go_at_call 49; (with_reducible refine (darms_any (w.heap.size + 1) _ (RdEx.of hr1 (by omega))).mono ?_); rintro e w2 ⟨a, b, k, v, rfl, ⟨hu, hx⟩, az, bz⟩; refine Hid.out ?_)
  refine Lib.hid ?_
  have hr2 := hu _ hr1
  have hJB := (hx.block _ (blk_lt hJB) (by omega)).trans hJB
  have hJ := hJ.belX hx hJ.1.lt (by omega)
  have hX2 : BelX w.heap.size (w.heap.size + 1) w w2 := BelX.step (BelX.of hB) hx hB.size
  have hz2 := hX2.size
  have hz12 := hx.size
  clear hu hx hr1 hB
  obtain ⟨⟨z0, z1, z2, z3, z4, z5⟩, hfz⟩ := hJ
  unfold FreeB at hfz
  have hB3 : Below w.heap.size w w2 := hX2.below (Nat.le_succ _)
  clear hX2 hr2
  go_wp2
  refine bodyPost_ret (v := .tuple #[.string a, .string b, .int .i64 k, jnv v]) (by simp [results, Tryz.results33, go_sem, *]) rfl ⟨a, b, k, v, rfl, by exact below_, az, bz⟩
set_option maxRecDepth 100000 in
set_option maxHeartbeats 4000000 in
theorem drawPortKeeps_any (A : Option Addr) (len cap : Nat) (w : World) (hby : Bytes A len cap w) :
    Calls Tryz.prog 43 #[.slice A len cap] w fun e w' => ∃ (a b : ByteArray) (k : Int) (v : Jn), e = .returned (.tuple #[.string a, .string b, .int .i64 k, jnv v]) ∧ Below w.heap.size w w' ∧ a.size ≤ 100 ∧ b.size ≤ 100 := by
  have hB0 : Below w.heap.size w (w.alloc (.cells #[.int .i64 0, .int .i64 0, .int .i64 0, .int .i64 0, .int .i64 0, .int .i64 0] 26)) := (Below.refl _ _).alloc (Nat.le_refl _) _
  go_enter Tryz.func43, Tryz.ntmps43
  go_wp2_with (go_at_call 50; (with_reducible refine (openB A len cap _ (w.heap.size + 1) (by simp) (hby.below ((Below.refl _ _).alloc (Nat.le_refl _) _))).mono ?_); rintro e w1 ⟨rfl, hr1, hb⟩; refine Hid.out ?_)
  refine Lib.hid ?_
  have hlt := hr1.lt
  have hJ : JnF w1 w.heap.size zJ := (JnF.new w zJ 26).below hb (by simp)
  have hB : Below w.heap.size w w1 := bstep hB0 hb (by simp)
  have hJB : Blk w1 w.heap.size (jc zJ) 26 := (hb.block _ (by simp)).trans (heap_alloc_last w _)
  clear hb hB0
  go_wp2_with (go_at_call 49; (with_reducible refine (darms_any (w.heap.size + 1) _ (RdEx.of hr1 (by omega))).mono ?_); rintro e w2 ⟨a, b, k, v, rfl, ⟨hu, hx⟩, az, bz⟩; refine Hid.out ?_)
  refine Lib.hid ?_
  have hr2 := hu _ hr1
  have hJB := (hx.block _ (blk_lt hJB) (by omega)).trans hJB
  have hJ := hJ.belX hx hJ.1.lt (by omega)
  have hX2 : BelX w.heap.size (w.heap.size + 1) w w2 := BelX.step (BelX.of hB) hx hB.size
  have hz2 := hX2.size
  have hz12 := hx.size
  clear hu hx hr1 hB
  obtain ⟨⟨z0, z1, z2, z3, z4, z5⟩, hfz⟩ := hJ
  unfold FreeB at hfz
  have hB3 : Below w.heap.size w w2 := hX2.below (Nat.le_succ _)
  clear hX2 hr2
  go_wp2
  refine bodyPost_ret (v := .tuple #[.string a, .string b, .int .i64 k, jnv v]) (by simp [results, Tryz.results43, go_sem, *]) rfl ⟨a, b, k, v, rfl, by exact below_, az, bz⟩
set_option maxRecDepth 100000 in
set_option maxHeartbeats 4000000 in
theorem drawPortTable_any (A : Option Addr) (len cap : Nat) (w : World) (hby : Bytes A len cap w) :
    Calls Tryz.prog 17 #[.slice A len cap] w fun e w' => ∃ (a b : ByteArray) (k : Int) (v : Jn), e = .returned (.tuple #[.string a, .string b, .int .i64 k, jnv v]) ∧ Below w.heap.size w w' ∧ a.size ≤ 100 ∧ b.size ≤ 100 := by
  have hB0 : Below w.heap.size w (w.alloc (.cells #[.int .i64 0, .int .i64 0, .int .i64 0, .int .i64 0, .int .i64 0, .int .i64 0] 26)) := (Below.refl _ _).alloc (Nat.le_refl _) _
  go_enter Tryz.func17, Tryz.ntmps17
  go_wp2_with (go_at_call 50; (with_reducible refine (openB A len cap _ (w.heap.size + 1) (by simp) (hby.below ((Below.refl _ _).alloc (Nat.le_refl _) _))).mono ?_); rintro e w1 ⟨rfl, hr1, hb⟩; refine Hid.out ?_)
  refine Lib.hid ?_
  have hlt := hr1.lt
  have hJ : JnF w1 w.heap.size zJ := (JnF.new w zJ 26).below hb (by simp)
  have hB : Below w.heap.size w w1 := bstep hB0 hb (by simp)
  have hJB : Blk w1 w.heap.size (jc zJ) 26 := (hb.block _ (by simp)).trans (heap_alloc_last w _)
  clear hb hB0
  go_wp2_with (go_at_call 49; (with_reducible refine (darms_any (w.heap.size + 1) _ (RdEx.of hr1 (by omega))).mono ?_); rintro e w2 ⟨a, b, k, v, rfl, ⟨hu, hx⟩, az, bz⟩; refine Hid.out ?_)
  refine Lib.hid ?_
  have hr2 := hu _ hr1
  have hJB := (hx.block _ (blk_lt hJB) (by omega)).trans hJB
  have hJ := hJ.belX hx hJ.1.lt (by omega)
  have hX2 : BelX w.heap.size (w.heap.size + 1) w w2 := BelX.step (BelX.of hB) hx hB.size
  have hz2 := hX2.size
  have hz12 := hx.size
  clear hu hx hr1 hB
  obtain ⟨⟨z0, z1, z2, z3, z4, z5⟩, hfz⟩ := hJ
  unfold FreeB at hfz
  have hB3 : Below w.heap.size w w2 := hX2.below (Nat.le_succ _)
  clear hX2 hr2
  go_wp2
  refine bodyPost_ret (v := .tuple #[.string a, .string b, .int .i64 k, jnv v]) (by simp [results, Tryz.results17, go_sem, *]) rfl ⟨a, b, k, v, rfl, by exact below_, az, bz⟩
set_option maxRecDepth 100000 in
set_option maxHeartbeats 4000000 in
theorem dboth_any (A : Option Addr) (len cap : Nat) (w : World) (hby : Bytes A len cap w) :
    Calls Tryz.prog 45 #[.slice A len cap] w fun e w' => ∃ (a b : ByteArray) (v : Jn), e = .returned (.tuple #[.string a, .string b, jnv v]) ∧ Below w.heap.size w w' ∧ a.size ≤ 100 ∧ b.size ≤ 100 := by
  have hB0 : Below w.heap.size w (w.alloc (.cells #[.int .i64 0, .int .i64 0, .int .i64 0, .int .i64 0, .int .i64 0, .int .i64 0] 26)) := (Below.refl _ _).alloc (Nat.le_refl _) _
  go_enter Tryz.func45, Tryz.ntmps45
  go_wp2_with (go_at_call 50; (with_reducible refine (openB A len cap _ (w.heap.size + 1) (by simp) (hby.below ((Below.refl _ _).alloc (Nat.le_refl _) _))).mono ?_); rintro e w1 ⟨rfl, hr1, hb⟩; refine Hid.out ?_)
  refine Lib.hid ?_
  have hlt := hr1.lt
  have hJ : JnF w1 w.heap.size zJ := (JnF.new w zJ 26).below hb (by simp)
  have hB : Below w.heap.size w w1 := bstep hB0 hb (by simp)
  have hJB : Blk w1 w.heap.size (jc zJ) 26 := (hb.block _ (by simp)).trans (heap_alloc_last w _)
  clear hb hB0
  go_wp2_with (go_at_call 49; (with_reducible refine (darms_any (w.heap.size + 1) _ (RdEx.of hr1 (by omega))).mono ?_); rintro e w2 ⟨a, b, k, v, rfl, ⟨hu, hx⟩, az, bz⟩; refine Hid.out ?_)
  refine Lib.hid ?_
  have hr2 := hu _ hr1
  have hJB := (hx.block _ (blk_lt hJB) (by omega)).trans hJB
  have hJ := hJ.belX hx hJ.1.lt (by omega)
  have hX2 : BelX w.heap.size (w.heap.size + 1) w w2 := BelX.step (BelX.of hB) hx hB.size
  have hz2 := hX2.size
  have hz12 := hx.size
  clear hu hx hr1 hB
  have hV := JnF.new w2 v 26
  have hJ := hJ.alloc (.cells #[.int .i64 v.x.re, .int .i64 v.x.im, .int .i64 v.x.den, .int .i64 v.y.re, .int .i64 v.y.im, .int .i64 v.y.den] 26)
  have hB2 : Below w.heap.size w (w2.alloc (.cells #[.int .i64 v.x.re, .int .i64 v.x.im, .int .i64 v.x.den, .int .i64 v.y.re, .int .i64 v.y.im, .int .i64 v.y.den] 26)) := (hX2.alloc hz2 _).below (Nat.le_succ _)
  go_upto_region 2 with fail
  obtain ⟨W, hW⟩ : ∃ W, W = w2.alloc (.cells #[.int .i64 v.x.re, .int .i64 v.x.im, .int .i64 v.x.den, .int .i64 v.y.re, .int .i64 v.y.im, .int .i64 v.y.den] 26) := ⟨_, rfl⟩
  rw [← hW] at hV hJ hB2 ⊢
  clear hW hX2 hr2
  obtain ⟨⟨p0, p1, p2, p3, p4, p5⟩, -⟩ := hV
  obtain ⟨⟨z0, z1, z2, z3, z4, z5⟩, hfz⟩ := hJ
  unfold FreeB at hfz
  go_region
  all_goals go_wp2
  all_goals (refine bodyPost_ret (v := .tuple #[.string a, .string b, jnv v]) (by simp [results, Tryz.results45, go_sem, *]) rfl ⟨a, b, v, rfl, by exact below_, az, bz⟩)
set_option maxRecDepth 100000 in
set_option maxHeartbeats 4000000 in
theorem drawPortFringes_any (A : Option Addr) (len cap : Nat) (w : World) (hby : Bytes A len cap w) :
    Calls Tryz.prog 40 #[.slice A len cap] w fun e w' => ∃ (a b : ByteArray) (v : Jn), e = .returned (.tuple #[.string a, .string b, jnv v]) ∧ Below w.heap.size w w' ∧ a.size ≤ 100 ∧ b.size ≤ 100 := by
  have hB0 : Below w.heap.size w (w.alloc (.cells #[.int .i64 0, .int .i64 0, .int .i64 0, .int .i64 0, .int .i64 0, .int .i64 0] 26)) := (Below.refl _ _).alloc (Nat.le_refl _) _
  go_enter Tryz.func40, Tryz.ntmps40
  go_wp2_with (go_at_call 45; (with_reducible refine (dboth_any A len cap _ (hby.below ((Below.refl _ _).alloc (Nat.le_refl _) _))).mono ?_); rintro e w1 ⟨a, b, v, rfl, hb, az, bz⟩; refine Hid.out ?_)
  refine Lib.hid ?_
  have hJ : JnF w1 w.heap.size zJ := (JnF.new w zJ 26).below hb (by simp)
  have hB : Below w.heap.size w w1 := bstep hB0 hb (by simp)
  clear hb hB0
  obtain ⟨⟨z0, z1, z2, z3, z4, z5⟩, hfz⟩ := hJ
  unfold FreeB at hfz
  go_wp2
  refine bodyPost_ret (v := .tuple #[.string a, .string b, jnv v]) (by simp [results, Tryz.results40, go_sem, *]) rfl ⟨a, b, v, rfl, by exact below_, az, bz⟩
set_option maxRecDepth 100000 in
set_option maxHeartbeats 4000000 in
theorem drawPortBright_any (A : Option Addr) (len cap : Nat) (w : World) (hby : Bytes A len cap w) :
    Calls Tryz.prog 12 #[.slice A len cap] w fun e w' => ∃ (a b : ByteArray) (v : Jn), e = .returned (.tuple #[.string a, .string b, jnv v]) ∧ Below w.heap.size w w' ∧ a.size ≤ 100 ∧ b.size ≤ 100 := by
  have hB0 : Below w.heap.size w (w.alloc (.cells #[.int .i64 0, .int .i64 0, .int .i64 0, .int .i64 0, .int .i64 0, .int .i64 0] 26)) := (Below.refl _ _).alloc (Nat.le_refl _) _
  go_enter Tryz.func12, Tryz.ntmps12
  go_wp2_with (go_at_call 45; (with_reducible refine (dboth_any A len cap _ (hby.below ((Below.refl _ _).alloc (Nat.le_refl _) _))).mono ?_); rintro e w1 ⟨a, b, v, rfl, hb, az, bz⟩; refine Hid.out ?_)
  refine Lib.hid ?_
  have hJ : JnF w1 w.heap.size zJ := (JnF.new w zJ 26).below hb (by simp)
  have hB : Below w.heap.size w w1 := bstep hB0 hb (by simp)
  clear hb hB0
  obtain ⟨⟨z0, z1, z2, z3, z4, z5⟩, hfz⟩ := hJ
  unfold FreeB at hfz
  go_wp2
  refine bodyPost_ret (v := .tuple #[.string a, .string b, jnv v]) (by simp [results, Tryz.results12, go_sem, *]) rfl ⟨a, b, v, rfl, by exact below_, az, bz⟩
set_option maxRecDepth 100000 in
set_option maxHeartbeats 4000000 in
theorem drawPortSeen_any (A : Option Addr) (len cap : Nat) (w : World) (hby : Bytes A len cap w) :
    Calls Tryz.prog 24 #[.slice A len cap] w fun e w' => ∃ (a b : ByteArray) (v : Jn), e = .returned (.tuple #[.string a, .string b, jnv v]) ∧ Below w.heap.size w w' ∧ a.size ≤ 100 ∧ b.size ≤ 100 := by
  have hB0 : Below w.heap.size w (w.alloc (.cells #[.int .i64 0, .int .i64 0, .int .i64 0, .int .i64 0, .int .i64 0, .int .i64 0] 26)) := (Below.refl _ _).alloc (Nat.le_refl _) _
  go_enter Tryz.func24, Tryz.ntmps24
  go_wp2_with (go_at_call 45; (with_reducible refine (dboth_any A len cap _ (hby.below ((Below.refl _ _).alloc (Nat.le_refl _) _))).mono ?_); rintro e w1 ⟨a, b, v, rfl, hb, az, bz⟩; refine Hid.out ?_)
  refine Lib.hid ?_
  have hJ : JnF w1 w.heap.size zJ := (JnF.new w zJ 26).below hb (by simp)
  have hB : Below w.heap.size w w1 := bstep hB0 hb (by simp)
  clear hb hB0
  obtain ⟨⟨z0, z1, z2, z3, z4, z5⟩, hfz⟩ := hJ
  unfold FreeB at hfz
  go_wp2
  refine bodyPost_ret (v := .tuple #[.string a, .string b, jnv v]) (by simp [results, Tryz.results24, go_sem, *]) rfl ⟨a, b, v, rfl, by exact below_, az, bz⟩
set_option maxRecDepth 100000 in
set_option maxHeartbeats 4000000 in
theorem drawPortDark_any (A : Option Addr) (len cap : Nat) (w : World) (hby : Bytes A len cap w) :
    Calls Tryz.prog 38 #[.slice A len cap] w fun e w' => ∃ (a b : ByteArray) (v : Jn), e = .returned (.tuple #[.string a, .string b, jnv v]) ∧ Below w.heap.size w w' ∧ a.size ≤ 100 ∧ b.size ≤ 100 := by
  have hB0 : Below w.heap.size w (w.alloc (.cells #[.int .i64 0, .int .i64 0, .int .i64 0, .int .i64 0, .int .i64 0, .int .i64 0] 26)) := (Below.refl _ _).alloc (Nat.le_refl _) _
  go_enter Tryz.func38, Tryz.ntmps38
  go_wp2_with (go_at_call 45; (with_reducible refine (dboth_any A len cap _ (hby.below ((Below.refl _ _).alloc (Nat.le_refl _) _))).mono ?_); rintro e w1 ⟨a, b, v, rfl, hb, az, bz⟩; refine Hid.out ?_)
  refine Lib.hid ?_
  have hJ : JnF w1 w.heap.size zJ := (JnF.new w zJ 26).below hb (by simp)
  have hB : Below w.heap.size w w1 := bstep hB0 hb (by simp)
  clear hb hB0
  obtain ⟨⟨z0, z1, z2, z3, z4, z5⟩, hfz⟩ := hJ
  unfold FreeB at hfz
  go_wp2
  refine bodyPost_ret (v := .tuple #[.string a, .string b, jnv v]) (by simp [results, Tryz.results38, go_sem, *]) rfl ⟨a, b, v, rfl, by exact below_, az, bz⟩
end Go.Proofs.YtjbnkefeacineaaGreatDoor
