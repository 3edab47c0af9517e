/-
  The walk of the reference's l6tRow.
-/
import Derived.Test.YtodhbkinbcemnaaGreatDoorUh
namespace Go.Proofs.YtodhbkinbcemnaaGreatDoor
set_option linter.unusedSimpArgs false
set_option linter.unusedVariables false
open Go.RowKit
attribute [local go_sem ↓] Go.wp_at_zero Go.wp_at_succ
theorem dotS_congr {r r' c c' : Nat → Fr} : ∀ n, (∀ k, k < n → r k = r' k) → (∀ k, k < n → c k = c' k) → dotS r c n = dotS r' c' n
  | 0, _, _ => rfl
  | n + 1, h1, h2 => by
    simp only [dotS]
    rw [dotS_congr n (fun k hk => h1 k (by omega)) (fun k hk => h2 k (by omega)), h1 n (by omega), h2 n (by omega)]
theorem st_k (a b mv : Fr) (mo : Bool) (w : World) (h1 : Hid (vN (timesI a b) = mv)) (h2 : Hid ((timesI a b).isSome = mo)) : Calls Tryz.prog 71 #[frv a, frv b] w fun e w' => e = .returned (.tuple #[frv mv, .bool mo]) ∧ Below w.heap.size w w' := by
  rw [← h1.out, ← h2.out]; exact stimes_any a b w
theorem y_addm (a b av : Fr) (an : Bool) (bs : Nat) (w : World) (hs : OkEx w bs) (h1 : Hid (vN (addI a b) = av)) (h2 : Hid ((addI a b).isNone = an)) : Calls Tryz.prog 72 #[.pointer (some ⟨bs, 0, none⟩), frv a, .int .i64 1, frv b] w fun e w' => e = .returned (frv av) ∧ (∀ c, OkIs w bs c → OkIs w' bs (c || an)) ∧ BelX w.heap.size bs w w' := by
  rw [← h1.out, ← h2.out]; exact y_add a b bs w hs
theorem lrow_at {W : World} {b : Nat} {xs : List Fr} {ty : TypeId} (h : Blk W b (tbc xs) ty) {k : Nat} (hk : k < xs.length) : FAt W b (k * 3) (lrow xs k) := blk_get h hk
set_option maxRecDepth 100000 in
set_option maxHeartbeats 4000000 in
theorem y_row (rs cs : List Fr) (hr : rs.length = 4) (hc : cs.length = 4) (bs : Nat) (bad : Bool) (w : World) (hs : OkIs w bs bad) :
    Calls Tryz.prog 30 #[.pointer (some ⟨bs, 0, none⟩), .agg (tbc rs), .agg (tbc cs)] w fun e w' => e = .returned (frv (dotS (lrow rs) (lrow cs) 4).1) ∧ OkIs w' bs (bad || (dotS (lrow rs) (lrow cs) 4).2) ∧ BelX w.heap.size bs w w' := by
  have hlt := hs.lt
  go_enter Tryz.func30, Tryz.ntmps30
  have h0 : QW w bs ([] ++ [(w.heap.size, tbc rs, 26)] ++ [(w.heap.size + 1, tbc cs, 26)] ++ [(w.heap.size + 1 + 1, z3c, 25)]) bad (((w.alloc (.cells (tbc rs) 26)).alloc (.cells (tbc cs) 26)).alloc (.cells z3c 25)) := by
    have := (((QW.ofStart hs).new (tbc rs) 26).new (tbc cs) 26).new z3c 25
    simpa only [World.size_alloc] using this
  simp only [List.nil_append, List.cons_append] at h0
  obtain ⟨fb, hfb⟩ : ∃ x, x = w.heap.size + 1 + 1 + 1 := ⟨_, rfl⟩
  obtain ⟨bl, hbl⟩ : ∃ x, x = [(w.heap.size, tbc rs, 26), (w.heap.size + 1, tbc cs, 26), (w.heap.size + 1 + 1, z3c, 25)] := ⟨_, rfl⟩
  rw [← hbl] at h0
  have hblk : ∀ q ∈ bl, q.1 < fb := by
    rw [hbl, hfb]
    intro q hq
    simp only [List.mem_cons, List.not_mem_nil, or_false] at hq
    rcases hq with rfl | rfl | rfl <;> (simp only; omega)
  go_upto_region 2 with fail
  obtain ⟨W0, hW0, hQ, hF⟩ : ∃ W, W = ((((w.alloc (.cells (tbc rs) 26)).alloc (.cells (tbc cs) 26)).alloc (.cells #[.int .i64 0, .int .i64 0, .int .i64 0] 25)).alloc (.cells #[.int .i64 0, .int .i64 0, .int .i64 1] 25)) ∧ QW w bs bl bad W ∧ Blk W fb (frc ⟨0, 0, 1⟩) 25 := by
    refine ⟨_, rfl, h0.alloc _, ?_⟩
    have := heap_alloc_last (((w.alloc (.cells (tbc rs) 26)).alloc (.cells (tbc cs) 26)).alloc (.cells #[.int .i64 0, .int .i64 0, .int .i64 0] 25)) (.cells #[.int .i64 0, .int .i64 0, .int .i64 1] 25)
    simp only [World.size_alloc] at this
    rw [hfb]; exact this
  rw [← hW0, ← hfb]
  clear hW0 h0
  have hw0 := Lib.hid hfb
  clear hfb
  go_wp2
  go_loopw [8, 9, 10] (fun i _ _ wr => ∃ k : Nat, k ≤ 4 ∧ i = .int .i64 k ∧ QW w bs bl (bad || (dotS (lrow rs) (lrow cs) k).2) wr ∧ Blk wr fb (frc (dotS (lrow rs) (lrow cs) k).1) 25) (fun i _ _ _ => 4 - (intOf i).toNat)
  case atStart => exact ⟨0, Nat.zero_le _, rfl, hQ.sub (by simp [dotS]), hF⟩
  case round =>
    clear hQ hF
    rename World => wo
    obtain ⟨k, hk, rfl, hQ, hF⟩ := hrel
    by_cases hkl : k < 4
    · have hki : (k : Int) < 4 := by omega
      obtain ⟨xv, hxv⟩ : ∃ x, vN (timesI (lrow rs k) (lrow cs k)) = x := ⟨_, rfl⟩
      obtain ⟨xo, hxo⟩ : ∃ x, (timesI (lrow rs k) (lrow cs k)).isSome = x := ⟨_, rfl⟩
      obtain ⟨d, hd⟩ : ∃ x, x = dotS (lrow rs) (lrow cs) k := ⟨_, rfl⟩
      have hd1 : dotS (lrow rs) (lrow cs) (k + 1) = (vN (addI d.1 xv), (d.2 || !xo) || (addI d.1 xv).isNone) := by
        rw [hd]; simp only [dotS, hxv, ← nn_of hxo]
      rw [← hd] at hQ hF
      have HX := Lib.hid hxv
      have HO := Lib.hid hxo
      have HD := Lib.hid hd1
      clear hxv hxo hd1 hd
      obtain ⟨a0, a1, a2⟩ := lrow_at (hQ.at (b := w.heap.size) (cs := tbc rs) (ty := 26) (by rw [hbl]; simp)) (show k < rs.length by omega)
      obtain ⟨b0, b1, b2⟩ := lrow_at (hQ.at (b := w.heap.size + 1) (cs := tbc cs) (ty := 26) (by rw [hbl]; simp)) (show k < cs.length by omega)
      go_upto_region 5 with fail
      go_cut [9, 10] from 16 to 25 (fun s9 s10 W => s10 = .bool xo ∧ ∃ bx : Nat, s9 = .pointer (some ⟨bx, 0, none⟩) ∧ fb < bx ∧ Blk W bx (frc xv) 25 ∧ QW w bs bl (bad || d.2) W ∧ Blk W fb (frc d.1) 25)
      case first =>
        have hSx : ∀ W, Below wo.heap.size wo W → W.cell? ⟨w.heap.size, k * 3, none⟩ = some (.int .i64 (lrow rs k).re) ∧ W.cell? ⟨w.heap.size, k * 3 + 1, none⟩ = some (.int .i64 (lrow rs k).im) ∧ W.cell? ⟨w.heap.size, k * 3 + 2, none⟩ = some (.int .i64 (lrow rs k).den) ∧ W.cell? ⟨w.heap.size + 1, k * 3, none⟩ = some (.int .i64 (lrow cs k).re) ∧ W.cell? ⟨w.heap.size + 1, k * 3 + 1, none⟩ = some (.int .i64 (lrow cs k).im) ∧ W.cell? ⟨w.heap.size + 1, k * 3 + 2, none⟩ = some (.int .i64 (lrow cs k).den) := fun W h => by
          have l0 := hQ.lt (b := w.heap.size) (cs := tbc rs) (ty := 26) (by rw [hbl]; simp)
          have l1 := hQ.lt (b := w.heap.size + 1) (cs := tbc cs) (ty := 26) (by rw [hbl]; simp)
          exact ⟨(h.cell (p := ⟨_, _, none⟩) l0).trans a0, (h.cell (p := ⟨_, _, none⟩) l0).trans a1, (h.cell (p := ⟨_, _, none⟩) l0).trans a2, (h.cell (p := ⟨_, _, none⟩) l1).trans b0, (h.cell (p := ⟨_, _, none⟩) l1).trans b1, (h.cell (p := ⟨_, _, none⟩) l1).trans b2⟩
        have hFl := blk_lt hF
        go_region_held3 (fun W => W.cell? ⟨w.heap.size, k * 3, none⟩ = some (.int .i64 (lrow rs k).re) ∧ W.cell? ⟨w.heap.size, k * 3 + 1, none⟩ = some (.int .i64 (lrow rs k).im) ∧ W.cell? ⟨w.heap.size, k * 3 + 2, none⟩ = some (.int .i64 (lrow rs k).den) ∧ W.cell? ⟨w.heap.size + 1, k * 3, none⟩ = some (.int .i64 (lrow cs k).re) ∧ W.cell? ⟨w.heap.size + 1, k * 3 + 1, none⟩ = some (.int .i64 (lrow cs k).im) ∧ W.cell? ⟨w.heap.size + 1, k * 3 + 2, none⟩ = some (.int .i64 (lrow cs k).den)) ((refine hSx _ ?_; exact below_)) (first | (go_at_call 71; (with_reducible refine (st_k (lrow rs k) (lrow cs k) xv xo _ HX HO).mono ?_); rintro e w2 ⟨rfl, hb2⟩; have hB2 : Below wo.heap.size wo w2 := bstep (by exact below_) hb2 (by first | omega | (simp; done)); have hz2 := hB2.size; (first | (have hA2 : Blk w2 wo.heap.size (tbc [zK]) 25 := (hb2.block _ (by simp; done)).trans (heap_alloc_last _ _); obtain ⟨e0, e1, e2⟩ := blk_get hA2 (i := 0) (show 0 < 1 by decide); have e3 := blk_free hA2; simp only [Nat.zero_mul, Nat.zero_add] at e0 e1 e2) | skip); clear hb2))
        all_goals (try go_wp2)
        all_goals (go_meet; refine ⟨rfl, _, rfl, ?_, ?_, hQ.below (B := wo.heap.size) (by exact below_) (Nat.le_refl _) hlt, ((show Below wo.heap.size wo _ by exact below_).block fb hFl).trans hF⟩)
        all_goals first | omega | exact heap_alloc_last _ _ | exact blk_put hA2 (i := 0) (show 0 < 1 by decide) xv
      clear hQ hF a0 a1 a2 b0 b1 b2
      rename World => wx
      obtain ⟨q10, bx, q9, hbx, hX, hQ, hF⟩ := hcut
      subst q9 q10
      have hfw : bs < fb := by have := hw0.out; omega
      have hq6 : fb ≠ bs ∧ bx ≠ bs := ⟨by omega, by omega⟩
      go_upto_region 6 with fail
      go_cut [] from 26 to 35 (fun W => QW w bs bl ((bad || d.2) || !xo) W ∧ Blk W fb (frc d.1) 25 ∧ Blk W bx (frc xv) 25)
      case first =>
        have hfs := hQ.s.frozen
        have hcs := hQ.s.cell
        obtain ⟨bd, hbd⟩ : ∃ x, x = (bad || d.2) := ⟨_, rfl⟩
        rw [← hbd] at hcs hQ
        have HBD := Lib.hid hbd
        clear hbd
        have HQ := Lib.hid hQ
        clear hQ
        rcases bd with _ | _ <;> rcases xo with _ | _ <;> simp only [Bool.not_true, Bool.not_false] at hcs
        · go_wp2
          go_meet
          case rel => exact ⟨(HQ.out.flag hlt true).sub (by rw [← HBD.out]; rfl), (Below.heap_setCell _ _ _ _ hq6.1).trans hF, (Below.heap_setCell _ _ _ _ hq6.2).trans hX⟩
        · go_wp2
          go_meet
          case rel => exact ⟨(HQ.out.flag hlt false).sub (by rw [← HBD.out]; rfl), (Below.heap_setCell _ _ _ _ hq6.1).trans hF, (Below.heap_setCell _ _ _ _ hq6.2).trans hX⟩
        · go_wp2
          go_meet
          case rel => exact ⟨(HQ.out.flag hlt true).sub (by rw [← HBD.out]; rfl), (Below.heap_setCell _ _ _ _ hq6.1).trans hF, (Below.heap_setCell _ _ _ _ hq6.2).trans hX⟩
        · go_wp2
          go_meet
          case rel => exact ⟨(HQ.out.flag hlt true).sub (by rw [← HBD.out]; rfl), (Below.heap_setCell _ _ _ _ hq6.1).trans hF, (Below.heap_setCell _ _ _ _ hq6.2).trans hX⟩
      clear hQ hF hX
      rename World => wy
      obtain ⟨hQ, hF, hX⟩ := hcut
      obtain ⟨av, hav⟩ : ∃ x, vN (addI d.1 xv) = x := ⟨_, rfl⟩
      obtain ⟨an, han⟩ : ∃ x, (addI d.1 xv).isNone = x := ⟨_, rfl⟩
      have HA := Lib.hid hav
      have HN := Lib.hid han
      have hd2 := HD.out
      rw [hav, han] at hd2
      have HD2 := Lib.hid hd2
      clear hav han hd2
      obtain ⟨x0, x1, x2⟩ := blk_fr0 hX
      obtain ⟨f0, f1, f2⟩ := blk_fr0 hF
      have hFl := blk_lt hF
      go_wp2_with (first | (go_at_call 72; (with_reducible refine (y_addm d.1 xv av an bs _ (OkEx.of hQ.s) HA HN).mono ?_); rintro e w3 ⟨rfl, hu, hx⟩; have hQ3 := hQ.step hlt hx (hu _ hQ.s); have hF3 : Blk w3 fb (tbc [d.1]) 25 := (hx.block fb hFl hq6.1).trans hF; obtain ⟨g0, g1, g2⟩ := blk_get hF3 (i := 0) (show 0 < 1 by decide); have g3 := blk_free hF3; (try simp only [Nat.zero_mul, Nat.zero_add] at g0 g1 g2); clear hu hx))
      go_roundw
      case rel =>
        refine ⟨k + 1, by omega, by go_num, ?_, ?_⟩
        · rw [HD2.out]
          refine ((((hQ3.cell hlt ?_ ?_ _).cell hlt ?_ ?_ _).cell hlt ?_ ?_ _)).sub ?_
          all_goals first | (show w.heap.size ≤ fb; have := hw0.out; omega) | (intro q hq; have := hblk q hq; show q.1 ≠ fb; omega) | (simp only [Bool.or_assoc])
        · rw [HD2.out]
          exact blk_put hF3 (i := 0) (show 0 < 1 by decide) av
      case measure => simp [intOf]; omega
    · obtain rfl : k = 4 := by omega
      obtain ⟨f0, f1, f2⟩ := blk_fr0 hF
      have hR := hQ.at (b := w.heap.size + 1 + 1) (cs := z3c) (ty := 25) (by rw [hbl]; simp)
      obtain ⟨g0, g1, g2⟩ := blk_get (xs := [zK]) hR (i := 0) (show 0 < 1 by decide)
      have g3 := blk_free hR
      simp only [Nat.zero_mul, Nat.zero_add] at g0 g1 g2
      obtain ⟨D, hD⟩ : ∃ x, x = dotS (lrow rs) (lrow cs) 4 := ⟨_, rfl⟩
      rw [← hD] at hQ f0 f1 f2
      have HD := Lib.hid hD
      clear hD hF
      have HQ := Lib.hid hQ
      clear hQ hR
      go_wp2
      refine bodyPost_ret (v := frv D.1) (by simp [results, Tryz.results30, go_sem, *]) rfl ⟨by rw [← HD.out], ?_, ((HQ.out.X.setCell (by show w.heap.size ≤ w.heap.size + 1 + 1; omega) _).setCell (by show w.heap.size ≤ w.heap.size + 1 + 1; omega) _).setCell (by show w.heap.size ≤ w.heap.size + 1 + 1; omega) _⟩
      rw [← HD.out]
      exact ((HQ.out.s.far (by show bs ≠ w.heap.size + 1 + 1; omega) _).far (by show bs ≠ w.heap.size + 1 + 1; omega) _).far (by show bs ≠ w.heap.size + 1 + 1; omega) _
end Go.Proofs.YtodhbkinbcemnaaGreatDoor
