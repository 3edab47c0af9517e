/-
  The walk of the program's sum of a row's products.
-/
import Derived.Test.YtodhbkinbcemnaaGreatDoorUi
import Derived.Test.YtodhbkinbcemnaaGreatDoorTm
namespace Go.Proofs.YtodhbkinbcemnaaGreatDoor
set_option linter.unusedSimpArgs false
set_option linter.unusedVariables false
open Go.RowKit
attribute [local go_sem ↓] Go.wp_at_zero Go.wp_at_succ
noncomputable def opsY : List Oper := (regionAt Tryz.f27 5).toList
def rdY : List Nat := [0, 4, 5, 7, 8]
def vY (ba bb bs fb k : Nat) (rs cs : List Fr) (acc : Fr) (t : Nat) : Value := if t < 19 then nth [ptv bs, undef, undef, undef, ptv ba, ptv bb, undef, ptv fb, iv k] t else nth [ptv bs, frv acc, ptv bs, iv k, .pointer (some ⟨ba, k * 3, none⟩), frv (lrow rs k), iv k, .pointer (some ⟨bb, k * 3, none⟩), frv (lrow cs k), frv (vN (timesI (lrow rs k) (lrow cs k))), frv (vN (addI acc (vN (timesI (lrow rs k) (lrow cs k)))))] (t - 19)
theorem lnY : opsY.length = 12 ∧ callsTo opsY 12 = 3 := ⟨by kernel_rfl, by kernel_rfl⟩
theorem kbY : kb opsY 1 = 1 := by kernel_rfl
theorem okY : opsOk opsY 19 rdY [] none 0 opsY = true := by kernel_rfl
set_option maxRecDepth 100000 in
set_option maxHeartbeats 8000000 in
theorem regY (W0 : World) (ba bb bs fb k : Nat) (rs cs : List Fr) (acc : Fr) (bad : Bool) (hk : k < 4) (hbs : bs < W0.heap.size) (hfb : fb < W0.heap.size) (hne : fb ≠ bs) (hA : FAt W0 ba (k * 3) (lrow rs k)) (hA1 : ba < W0.heap.size) (hA2 : ba ≠ bs) (hA3 : ba ≠ fb) (hB : FAt W0 bb (k * 3) (lrow cs k)) (hB1 : bb < W0.heap.size) (hB2 : bb ≠ bs) (hB3 : bb ≠ fb) :
    Obs [] (vY ba bb bs fb k rs cs acc) opsY (RKm W0 bs fb (badL bad [(timesI (lrow rs k) (lrow cs k)).isNone, (addI acc (vN (timesI (lrow rs k) (lrow cs k)))).isNone]) (fc13 acc (vN (addI acc (vN (timesI (lrow rs k) (lrow cs k)))))) 25) Tryz.prog 19 0 0 opsY := by
    have lA : ∀ mm kk w, kk ≤ 1 → RKm W0 bs fb (badL bad [(timesI (lrow rs k) (lrow cs k)).isNone, (addI acc (vN (timesI (lrow rs k) (lrow cs k)))).isNone]) (fc13 acc (vN (addI acc (vN (timesI (lrow rs k) (lrow cs k)))))) 25 mm kk w → (Instr.loadAt 25 (.pointer (some ⟨fb, 0, none⟩))).run Tryz.prog w = .ok (frv acc) w := rk_loadA (cs := frc acc) (fun k' hk' => if_pos (by omega)) Tryz.underlying25 rfl sz_Frac
    refine obs_move (i := 0) rfl rfl rfl rfl ?_
    refine obs_loadK (c := 1) (i := 1) rfl rfl rfl rfl kbY lA ?_
    refine obs_move (i := 2) rfl rfl rfl rfl ?_
    refine obs_move (i := 3) rfl rfl rfl rfl ?_
    refine obs_indexT (i := 4) rfl rfl rfl rfl rfl (idx_at4 ba k hk) ?_
    refine obs_load (i := 5) rfl rfl rfl rfl (rk_loadF hA hA1 hA2 hA3) ?_
    refine obs_move (i := 6) rfl rfl rfl rfl ?_
    refine obs_indexT (i := 7) rfl rfl rfl rfl rfl (idx_at4 bb k hk) ?_
    refine obs_load (i := 8) rfl rfl rfl rfl (rk_loadF hB hB1 hB2 hB3) ?_
    refine obs_call (i := 9) (k := 0) rfl rfl Tryz.func37 rfl rfl rfl rfl (rk_call [ptv bs, frv (lrow rs k), frv (lrow cs k)] (frv (vN (timesI (lrow rs k) (lrow cs k)))) hbs hfb hne rfl rfl (fun w h => x_times (lrow rs k) (lrow cs k) bs w h)) ?_
    refine obs_call (i := 10) (k := 1) rfl rfl Tryz.func45 rfl rfl rfl rfl (rk_call [ptv bs, frv acc, frv (vN (timesI (lrow rs k) (lrow cs k)))] (frv (vN (addI acc (vN (timesI (lrow rs k) (lrow cs k)))))) hbs hfb hne rfl rfl (fun w h => x_add acc (vN (timesI (lrow rs k) (lrow cs k))) bs w h)) ?_
    refine obs_storeF (i := 11) (k := 2) rfl rfl rfl rfl rfl rfl (rk_store hne rfl rfl (frc_one _) sz_Frac) ?_
    exact obs_nil rfl
/-- Blocks kept beside the program's reckoning. -/
structure QS (w : World) (bs : Nat) (bl : List (Nat × Array Value × TypeId)) (bad : Bool) (W : World) : Prop where
  X : BelX w.heap.size bs w W
  s : SumIs W bs bad
  g : ∀ q ∈ bl, w.heap.size ≤ q.1 ∧ Blk W q.1 q.2.1 q.2.2
section
variable {w W W' : World} {bs : Nat} {bl : List (Nat × Array Value × TypeId)} {bad bad' : Bool}
theorem QS.step (h : QS w bs bl bad W) (hbs : bs < w.heap.size) (Y : BelX W.heap.size bs W W') (s : SumIs W' bs bad') : QS w bs bl bad' W' :=
  ⟨h.X.step Y h.X.size, s, fun q hq => ⟨(h.g q hq).1, (Y.block q.1 (blk_lt (h.g q hq).2) (by have := (h.g q hq).1; omega)).trans (h.g q hq).2⟩⟩
theorem QS.alloc (h : QS w bs bl bad W) (o : Obj) : QS w bs bl bad (W.alloc o) :=
  ⟨h.X.alloc h.X.size o, h.s.alloc o, fun q h1 => ⟨(h.g q h1).1, (Below.heap_alloc _ _ _ (blk_lt (h.g q h1).2)).trans (h.g q h1).2⟩⟩
theorem QS.more (h : QS w bs bl bad W) {b : Nat} {cs : Array Value} {ty : TypeId} (hb : w.heap.size ≤ b) (hc : Blk W b cs ty) : QS w bs (bl ++ [(b, cs, ty)]) bad W :=
  ⟨h.X, h.s, fun q hq => by
    rcases List.mem_append.1 hq with h1 | h1
    · exact h.g q h1
    · simp at h1; subst h1; exact ⟨hb, hc⟩⟩
theorem QS.new (h : QS w bs bl bad W) (cs : Array Value) (ty : TypeId) : QS w bs (bl ++ [(W.heap.size, cs, ty)]) bad (W.alloc (.cells cs ty)) := (h.alloc _).more h.X.size (heap_alloc_last W _)
theorem QS.at (h : QS w bs bl bad W) {b : Nat} {cs : Array Value} {ty : TypeId} (hq : (b, cs, ty) ∈ bl) : Blk W b cs ty := (h.g _ hq).2
theorem QS.ofStart (h : SumIs w bs bad) : QS w bs [] bad w := ⟨BelX.refl _ _ _, h, fun _ h => nomatch h⟩
theorem QS.sub (h : QS w bs bl bad W) (e : bad = bad') : QS w bs bl bad' W := e ▸ h
theorem QS.stepK {fb k : Nat} {bd : Nat → Bool} {fc : Nat → Array Value} {ty : TypeId} (h : QS w bs bl bad W) (K : RK W bs fb bd fc ty k W') (hfb : w.heap.size ≤ fb ∧ bs < w.heap.size) (hq : ∀ q ∈ bl, q.1 ≠ fb) : QS w bs bl (bd k) W' := by
  have hz := h.X.size
  refine ⟨h.X.trans ⟨K.os, K.tape, K.output, K.size, fun b h1 h2 => K.block b (by omega) h2 (by omega)⟩, K.s, fun q h1 => ?_⟩
  obtain ⟨g1, g2⟩ := h.g q h1
  exact ⟨g1, (K.block q.1 (blk_lt g2) (by omega) (hq q h1)).trans g2⟩
end
theorem xt_m (a b p : Fr) (pn : Bool) (bs : Nat) (w : World) (hs : SumEx w bs) (hp : Hid (vN (timesI a b) = p)) (hn : Hid ((timesI a b).isNone = pn)) :
    Calls Tryz.prog 37 #[.pointer (some ⟨bs, 0, none⟩), frv a, frv b] w fun e w' => e = .returned (frv p) ∧ (∀ c, SumIs w bs c → SumIs w' bs (c || pn)) ∧ BelX w.heap.size bs w w' := by
  rw [← hp.out, ← hn.out]; exact x_times a b bs w hs
set_option maxRecDepth 100000 in
set_option maxHeartbeats 8000000 in
theorem x_read0 (rs cs : List Fr) (hr : rs.length = 4) (hc : cs.length = 4) (bs : Nat) (bad : Bool) (w : World) (hs : SumIs w bs bad) :
    Calls Tryz.prog 27 #[.pointer (some ⟨bs, 0, none⟩), .agg (tbc rs), .agg (tbc cs)] w fun e w' => e = .returned (frv (dotI (lrow rs) (lrow cs) 4).1) ∧ SumIs w' bs (bad || (dotI (lrow rs) (lrow cs) 4).2) ∧ BelX w.heap.size bs w w' := by
  have hlt := hs.lt
  have h0 : QS w bs ([] ++ [(w.heap.size, tbc rs, 26)] ++ [(w.heap.size + 1, tbc cs, 26)] ++ [(w.heap.size + 1 + 1, z3c, 25)]) bad (((w.alloc (.cells (tbc rs) 26)).alloc (.cells (tbc cs) 26)).alloc (.cells #[.int .i64 0, .int .i64 0, .int .i64 0] 25)) := by
    have := (((QS.ofStart hs).new (tbc rs) 26).new (tbc cs) 26).new z3c 25
    simp only [World.size_alloc] at this
    exact this
  simp only [List.nil_append, List.cons_append] at h0
  obtain ⟨bl, hbl⟩ : ∃ x, x = [(w.heap.size, tbc rs, 26), (w.heap.size + 1, tbc cs, 26), (w.heap.size + 1 + 1, z3c, 25)] := ⟨_, rfl⟩
  rw [← hbl] at h0
  obtain ⟨a0, a1, a2⟩ := lrow_at (h0.at (b := w.heap.size) (cs := tbc rs) (ty := 26) (by rw [hbl]; simp)) (show 0 < rs.length by omega)
  obtain ⟨b0, b1, b2⟩ := lrow_at (h0.at (b := w.heap.size + 1) (cs := tbc cs) (ty := 26) (by rw [hbl]; simp)) (show 0 < cs.length by omega)
  simp only [Nat.zero_mul, Nat.zero_add] at a0 a1 a2 b0 b1 b2
  obtain ⟨xv, hxv⟩ : ∃ x, vN (timesI (lrow rs 0) (lrow cs 0)) = x := ⟨_, rfl⟩
  obtain ⟨xn, hxn⟩ : ∃ x, (timesI (lrow rs 0) (lrow cs 0)).isNone = x := ⟨_, rfl⟩
  have hd1 : dotI (lrow rs) (lrow cs) 1 = (xv, xn) := by rw [dot1, hxv, hxn]
  have HX := Lib.hid hxv
  have HN := Lib.hid hxn
  have HD1 := Lib.hid hd1
  have H0 := Lib.hid h0
  clear hxv hxn hd1 h0
  go_enter Tryz.func27, Tryz.ntmps27
  go_upto_region 2 with (go_at_call 37; (with_reducible refine (xt_m (lrow rs 0) (lrow cs 0) xv xn bs _ (SumEx.of H0.out.s) HX HN).mono ?_); rintro e w1 ⟨rfl, hu, hx⟩)
  obtain ⟨fb, hfb⟩ : ∃ x, x = w1.heap.size := ⟨_, rfl⟩
  have h1 := H0.out.step hlt hx (hu _ H0.out.s)
  have hfw : w.heap.size + 1 + 1 < fb := by have := hx.size; simp only [World.size_alloc] at this; omega
  have hblk : ∀ q ∈ bl, q.1 < fb := by
    rw [hbl]
    intro q hq
    simp only [List.mem_cons, List.not_mem_nil, or_false] at hq
    rcases hq with rfl | rfl | rfl <;> (simp only; omega)
  obtain ⟨W0, hW0, hQ, hF⟩ : ∃ W, W = w1.alloc (.cells #[.int .i64 xv.re, .int .i64 xv.im, .int .i64 xv.den] 25) ∧ QS w bs bl (bad || (dotI (lrow rs) (lrow cs) 1).2) W ∧ Blk W fb (frc (dotI (lrow rs) (lrow cs) 1).1) 25 := by
    refine ⟨_, rfl, ?_, ?_⟩
    · rw [HD1.out]; exact h1.alloc _
    · rw [HD1.out, hfb]; exact heap_alloc_last w1 _
  rw [← hW0, ← hfb]
  clear hW0 hfb h1 hu hx H0 a0 a1 a2 b0 b1 b2 HX HN HD1
  go_wp2
  go_loopw [8] (fun i wr => ∃ k : Nat, 1 ≤ k ∧ k ≤ 4 ∧ i = .int .i64 k ∧ QS w bs bl (bad || (dotI (lrow rs) (lrow cs) k).2) wr ∧ Blk wr fb (frc (dotI (lrow rs) (lrow cs) k).1) 25) (fun i _ => 4 - (intOf i).toNat)
  case atStart => exact ⟨1, Nat.le_refl _, by omega, rfl, hQ, hF⟩
  case round =>
    clear hQ hF
    rename World => wo
    obtain ⟨k, hk1, hk, rfl, hQ, hF⟩ := hrel
    by_cases hkl : k < 4
    · have hki : (k : Int) < 4 := by omega
      go_upto_region 5 with fail
      refine wp_then_k (fun KK hKK => ?_)
      go_cut [] from 19 to 29 (fun W => QS w bs bl (bad || (dotI (lrow rs) (lrow cs) (k + 1)).2) W ∧ Blk W fb (frc (dotI (lrow rs) (lrow cs) (k + 1)).1) 25)
      case first =>
        rename_i J K' hJ hK
        have hA := hQ.at (b := w.heap.size) (cs := tbc rs) (ty := 26) (by rw [hbl]; simp)
        have hB := hQ.at (b := w.heap.size + 1) (cs := tbc cs) (ty := 26) (by rw [hbl]; simp)
        refine region_sim (als := []) (rd := rdY) (V := vY w.heap.size (w.heap.size + 1) bs fb k rs cs (dotI (lrow rs) (lrow cs) k).1) (J := RKm wo bs fb (badL (bad || (dotI (lrow rs) (lrow cs) k).2) [(timesI (lrow rs k) (lrow cs k)).isNone, (addI (dotI (lrow rs) (lrow cs) k).1 (vN (timesI (lrow rs k) (lrow cs k)))).isNone]) (fc13 (dotI (lrow rs) (lrow cs) k).1 (vN (addI (dotI (lrow rs) (lrow cs) k).1 (vN (timesI (lrow rs k) (lrow cs k)))))) 25) (base := 19) (L := opsY) mixO (by kernel_rfl) (by intro t h; simp [ixOf] at h) okY (regY wo w.heap.size (w.heap.size + 1) bs fb k rs cs (dotI (lrow rs) (lrow cs) k).1 (bad || (dotI (lrow rs) (lrow cs) k).2) hkl hQ.s.lt (blk_lt hF) (by omega) (lrow_at hA (by omega)) (blk_lt hA) (by omega) (by omega) (lrow_at hB (by omega)) (blk_lt hB) (by omega) (by omega)) ?_ (by rw [lnY.1]; simp) ?_ (rk_start hQ.s hF)
        · intro mm a' W hJW hmade hsz hkeep hlow hup hal
          rw [lnY.1, lnY.2] at hJW
          rw [lnY.1] at hkeep
          have kp := hkeep.2.2
          have hRK : RK wo bs fb _ _ 25 3 W := hJW
          have ed := dotS1 (lrow rs) (lrow cs) k hk1
          have hQn := hQ.stepK hRK ⟨by omega, hlt⟩ (fun q hq => by have := hblk q hq; omega)
          exact hK _ _ (Met.intro (hJ _ _ ⟨a'.eval (.tmp 19), a'.eval (.tmp 20), a'.eval (.tmp 21), a'.eval (.tmp 22), a'.eval (.tmp 23), a'.eval (.tmp 24), a'.eval (.tmp 25), a'.eval (.tmp 26), a'.eval (.tmp 27), a'.eval (.tmp 28), a'.eval (.tmp 29), ⟨by rw [ed]; simp only [← Bool.or_assoc]; exact hQn, by rw [ed]; exact hRK.c⟩, act_ext3 31 _ rfl hkeep.2.1 hkeep.1 (fun t ht => match t, ht with | 0, _ => (kp 0 (by decide)) | 1, _ => (kp 1 (by decide)) | 2, _ => (kp 2 (by decide)) | 3, _ => (kp 3 (by decide)) | 4, _ => (kp 4 (by decide)) | 5, _ => (kp 5 (by decide)) | 6, _ => (kp 6 (by decide)) | 7, _ => (kp 7 (by decide)) | 8, _ => (kp 8 (by decide)) | 9, _ => (kp 9 (by decide)) | 10, _ => (kp 10 (by decide)) | 11, _ => (kp 11 (by decide)) | 12, _ => (kp 12 (by decide)) | 13, _ => (kp 13 (by decide)) | 14, _ => (kp 14 (by decide)) | 15, _ => (kp 15 (by decide)) | 16, _ => (kp 16 (by decide)) | 17, _ => (kp 17 (by decide)) | 18, _ => (kp 18 (by decide)) | 19, _ => rfl | 20, _ => rfl | 21, _ => rfl | 22, _ => rfl | 23, _ => rfl | 24, _ => rfl | 25, _ => rfl | 26, _ => rfl | 27, _ => rfl | 28, _ => rfl | 29, _ => rfl | 30, _ => (kp 30 (.inr (.inr ⟨by decide, by kernel_rfl⟩))) | n + 31, h => absurd h (by omega))⟩))
        · intro t ht
          simp only [rdY, List.mem_cons, List.not_mem_nil, or_false] at ht
          rcases ht with rfl | rfl | rfl | rfl | rfl <;> rfl
      clear hQ hF
      rename World => wn
      obtain ⟨hQ, hF⟩ := hcut
      refine hKK _ _ ?_
      go_wp2
      go_roundw
      case rel => exact ⟨k + 1, by omega, by omega, by go_num, hQ, hF⟩
      case measure => simp [intOf]; omega
    · obtain rfl : k = 4 := by omega
      obtain ⟨f0, f1, f2⟩ := blk_fr0 hF
      have hR := hQ.at (b := w.heap.size + 1 + 1) (cs := z3c) (ty := 25) (by rw [hbl]; simp)
      obtain ⟨g0, g1, g2⟩ := blk_get (xs := [zK]) hR (i := 0) (show 0 < 1 by decide)
      have g3 := blk_free hR
      simp only [Nat.zero_mul, Nat.zero_add] at g0 g1 g2
      obtain ⟨D, hD⟩ : ∃ x, x = dotI (lrow rs) (lrow cs) 4 := ⟨_, rfl⟩
      rw [← hD] at hQ f0 f1 f2
      have HD := Lib.hid hD
      clear hD hF
      have HQ := Lib.hid hQ
      clear hQ hR
      go_wp2
      refine bodyPost_ret (v := frv D.1) (by simp [results, Tryz.results27, go_sem, *]) rfl ⟨by rw [← HD.out], ?_, ((HQ.out.X.setCell (by show w.heap.size ≤ w.heap.size + 1 + 1; omega) _).setCell (by show w.heap.size ≤ w.heap.size + 1 + 1; omega) _).setCell (by show w.heap.size ≤ w.heap.size + 1 + 1; omega) _⟩
      rw [← HD.out]
      exact ((HQ.out.s.far (by show bs ≠ w.heap.size + 1 + 1; omega) _).far (by show bs ≠ w.heap.size + 1 + 1; omega) _).far (by show bs ≠ w.heap.size + 1 + 1; omega) _
end Go.Proofs.YtodhbkinbcemnaaGreatDoor
