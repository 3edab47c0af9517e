/-
  The walk of the reference's TableTimes.
-/
import Derived.Test.YtodhbkinbcemnaaGreatDoorUj
namespace Go.Proofs.YtodhbkinbcemnaaGreatDoor
set_option linter.unusedSimpArgs false
set_option linter.unusedVariables false
open Go.RowKit
attribute [local go_sem ↓] Go.wp_at_zero Go.wp_at_succ
/-- Before the reckoning is made. -/
structure TU0 (w : World) (a b : List Fr) (W : World) : Prop where
  B : Below w.heap.size w W
  ta : Blk W w.heap.size (tbc a) 44
  tb : Blk W (w.heap.size + 1) (tbc b) 44
  tr : Blk W (w.heap.size + 1 + 1) (tbc zs16) 44
theorem TU0.step {w W W' : World} {a b : List Fr} (h : TU0 w a b W) (hb : Below W.heap.size W W') : TU0 w a b W' := ⟨bstep h.B hb h.B.size, (hb.block _ (blk_lt h.ta)).trans h.ta, (hb.block _ (blk_lt h.tb)).trans h.tb, (hb.block _ (blk_lt h.tr)).trans h.tr⟩
theorem TU0.alloc {w W : World} {a b : List Fr} (h : TU0 w a b W) (x : Obj) : TU0 w a b (W.alloc x) := h.step ((Below.refl _ _).alloc (Nat.le_refl _) x)
/-- What the rounds keep. -/
structure TU (w : World) (bs bo : Nat) (a b xs : List Fr) (bad : Bool) (W : World) : Prop where
  t : TU0 w a b W
  s : OkIs W bs bad
  o : Blk W bo (tbc xs) 44
  l : w.heap.size + 1 + 1 < bs ∧ bs < bo
theorem TU.stepK {w W W' : World} {bs bo k : Nat} {a b xs ys : List Fr} {bad : Bool} {bd : Nat → Bool} {fc : Nat → Array Value} {ty : TypeId} (h : TU w bs bo a b xs bad W) (X : OK W bs bo bd fc ty k W') (hty : ty = 44) (hc : fc k = tbc ys) : TU w bs bo a b ys (bd k) W' := by
  obtain ⟨l1, l2⟩ := h.l
  have b1 := blk_lt h.t.ta
  have b2 := blk_lt h.t.tb
  have b3 := blk_lt h.t.tr
  refine ⟨⟨h.t.B.trans ⟨X.os, X.tape, X.output, X.size, fun k hk => X.block k (Nat.lt_of_lt_of_le hk h.t.B.size) (by omega) (by omega)⟩, (X.block _ b1 (by omega) (by omega)).trans h.t.ta, (X.block _ b2 (by omega) (by omega)).trans h.t.tb, (X.block _ b3 (by omega) (by omega)).trans h.t.tr⟩, X.s, ?_, h.l⟩
  have := X.c
  rw [hc, hty] at this
  exact this
theorem zpad_setS (a b : List Fr) (n : Nat) (h : n < 16) : (zpad (ttS a b n).1 n).set n (dotS (trow a (n / 4)) (tcol b (n % 4)) 4).1 = zpad (ttS a b (n + 1)).1 (n + 1) := by
  unfold zpad
  have hl := ttS_len a b n
  rw [List.set_append, if_neg (by omega), hl, Nat.sub_self, show 16 - n = 16 - (n + 1) + 1 by omega, List.replicate_succ, List.set_cons_zero]
  simp [ttS]
theorem zpad_lenS (a b : List Fr) (n : Nat) (h : n ≤ 16) : (zpad (ttS a b n).1 n).length = 16 := by
  unfold zpad; rw [List.length_append, ttS_len, List.length_replicate]; omega
theorem row_col (a b : List Fr) (i c : Nat) : dotS (lrow (rowT a i)) (lrow (colT b c)) 4 = dotS (trow a i) (tcol b c) 4 := by
  refine dotS_congr 4 (fun k hk => ?_) (fun k hk => ?_)
  · match k, hk with
    | 0, _ => rfl
    | 1, _ => rfl
    | 2, _ => rfl
    | 3, _ => rfl
  · match k, hk with
    | 0, _ => show b.getD c zK = b.getD (4 * 0 + c) zK; congr 1; omega
    | 1, _ => show b.getD (c + 4) zK = b.getD (4 * 1 + c) zK; congr 1; omega
    | 2, _ => show b.getD (c + 8) zK = b.getD (4 * 2 + c) zK; congr 1; omega
    | 3, _ => show b.getD (c + 12) zK = b.getD (4 * 3 + c) zK; congr 1; omega
set_option maxRecDepth 100000 in
set_option maxHeartbeats 8000000 in
theorem st_go (a b : List Fr) (ha : a.length = 16) (hb : b.length = 16) (ok : Bool) (hok : ok = (a.all realOk && b.all realOk)) (w : World) :
    Calls Tryz.prog 69 #[.agg (tbc a), .agg (tbc b)] w fun e w' => e = .returned (tbb (ttimesS a b)) ∧ Below w.heap.size w w' := by
  have h0 : TU0 w a b (((w.alloc (.cells (tbc a) 44)).alloc (.cells (tbc b) 44)).alloc (.cells (tbc zs16) 44)) := by
    refine ⟨(((Below.refl _ _).alloc (Nat.le_refl _) _).alloc (by simp) _).alloc (by simp; omega) _, ?_, ?_, ?_⟩
    · exact (Below.heap_alloc _ _ _ (by simp; omega)).trans ((Below.heap_alloc _ _ _ (by simp)).trans (heap_alloc_last _ _))
    · refine (Below.heap_alloc _ _ _ (by simp)).trans ?_
      have := heap_alloc_last (w.alloc (.cells (tbc a) 44)) (.cells (tbc b) 44)
      rwa [World.size_alloc] at this
    · have := heap_alloc_last ((w.alloc (.cells (tbc a) 44)).alloc (.cells (tbc b) 44)) (.cells (tbc zs16) 44)
      rwa [World.size_alloc, World.size_alloc] at this
  go_enter Tryz.func69, Tryz.ntmps69
  go_upto_region 1 with fail
  go_cut [6] from 10 to 17 (fun s6 W => ∃ bs : Nat, s6 = .pointer (some ⟨bs, 0, none⟩) ∧ w.heap.size + 1 + 1 < bs ∧ TU0 w a b W ∧ OkIs W bs (!ok))
  case first =>
    cases hva : a.all realOk
    · have hok2 : ok = false := by rw [hok, hva]; rfl
      subst hok2
      clear hok
      go_wp2_with (first | (refine wpList_load_row rfl 44 _ rfl w.heap.size rfl 44 (tbc a) (0, 0) _ h0.ta Tryz.underlying44 rfl (szTab a ha) ?_) | (go_at_call 112; (with_reducible refine (svalid_tab a _ ha).mono ?_); rw [hva]; rintro e wa ⟨rfl, hba⟩; have HT1 := Lib.hid (h0.step hba); clear hba))
      go_meet
      case rel => exact ⟨_, rfl, by have := blk_lt HT1.out.tr; omega, HT1.out.alloc _, OkIs.new wa true⟩
    · cases hvb : b.all realOk
      · have hok2 : ok = false := by rw [hok, hva, hvb]; rfl
        subst hok2
        clear hok
        go_wp2_with (first | (refine wpList_load_row rfl 44 _ rfl w.heap.size rfl 44 (tbc a) (0, 0) _ h0.ta Tryz.underlying44 rfl (szTab a ha) ?_) | (refine wpList_load_rowG 44 _ rfl rfl (w.heap.size + 1) rfl 44 (tbc b) (0, 0) _ HT1.out.tb Tryz.underlying44 rfl (szTab b hb) ?_) | (go_at_call 112; (with_reducible refine (svalid_tab b wa hb).mono ?_); rw [hvb]; rintro e wb ⟨rfl, hbb⟩; have HT2 := Lib.hid (HT1.out.step hbb); clear hbb) | (go_at_call 112; (with_reducible refine (svalid_tab a _ ha).mono ?_); rw [hva]; rintro e wa ⟨rfl, hba⟩; have HT1 := Lib.hid (h0.step hba); clear hba))
        go_meet
        case rel => exact ⟨_, rfl, by have := blk_lt HT2.out.tr; omega, HT2.out.alloc _, OkIs.new wb true⟩
      · have hok2 : ok = true := by rw [hok, hva, hvb]; rfl
        subst hok2
        clear hok
        go_wp2_with (first | (refine wpList_load_row rfl 44 _ rfl w.heap.size rfl 44 (tbc a) (0, 0) _ h0.ta Tryz.underlying44 rfl (szTab a ha) ?_) | (refine wpList_load_rowG 44 _ rfl rfl (w.heap.size + 1) rfl 44 (tbc b) (0, 0) _ HT1.out.tb Tryz.underlying44 rfl (szTab b hb) ?_) | (go_at_call 112; (with_reducible refine (svalid_tab b wa hb).mono ?_); rw [hvb]; rintro e wb ⟨rfl, hbb⟩; have HT2 := Lib.hid (HT1.out.step hbb); clear hbb) | (go_at_call 112; (with_reducible refine (svalid_tab a _ ha).mono ?_); rw [hva]; rintro e wa ⟨rfl, hba⟩; have HT1 := Lib.hid (h0.step hba); clear hba))
        go_meet
        case rel => exact ⟨_, rfl, by have := blk_lt HT2.out.tr; omega, HT2.out.alloc _, OkIs.new wb false⟩
  obtain ⟨bs, q6, hbs, hT0, hS0⟩ := hcut
  subst q6
  clear h0
  rename World => w1
  go_upto_region 2 with fail
  go_cut [7] from 18 to 18 (fun s7 W => ∃ bo : Nat, s7 = .pointer (some ⟨bo, 0, none⟩) ∧ TU w bs bo a b (zpad (ttS a b 0).1 0) (!ok || (ttS a b 0).2) W)
  case first =>
    have hnew : (w1.alloc (.cells (tbc zs16) 44)).heap[w1.heap.size]? = some (.cells (tbc zs16) 44 (0, 0)) := heap_alloc_last w1 _
    have hQ0 : TU w bs w1.heap.size a b (zpad (ttS a b 0).1 0) (!ok || (ttS a b 0).2) ((w1.alloc (.cells (tbc zs16) 44)).setRow w1.heap.size (tbc zs16)) := by
      have hx : Below w1.heap.size w1 ((w1.alloc (.cells (tbc zs16) 44)).setRow w1.heap.size (tbc zs16)) := below_setRow ((Below.refl _ _).alloc (Nat.le_refl _) _) (Nat.le_refl _) _
      refine ⟨hT0.step hx, ?_, setRow_heap _ _ (tbc zs16) _ _ (0, 0) hnew, hbs, hS0.lt⟩
      have := hS0.below hx hS0.lt
      simpa [ttS] using this
    go_wp2_with (refine wpList_store_row rfl 44 _ _ rfl w1.heap.size (tbc zs16) rfl rfl 44 (tbc zs16) hnew (szTab _ rfl) rfl (tbc_one _) ?_)
    go_meet
    case rel => exact ⟨_, rfl, hQ0⟩
  clear hT0 hS0 hbs
  rename World => w2
  obtain ⟨bo, q7, hT⟩ := hcut
  subst q7
  go_wp2
  go_loopw [8, 9] (fun i _ wr => ∃ n : Nat, n ≤ 16 ∧ i = .int .i64 n ∧ TU w bs bo a b (zpad (ttS a b n).1 n) (!ok || (ttS a b n).2) wr) (fun i _ _ => 16 - (intOf i).toNat)
  case atStart => exact ⟨0, Nat.zero_le _, rfl, hT⟩
  case round =>
    clear hT
    rename World => wo
    obtain ⟨n, hn, rfl, hT⟩ := hrel
    have hcs := hT.s.cell
    have hfs := hT.s.frozen
    cases hbd : (!ok || (ttS a b n).2)
    · rw [hbd] at hcs hT
      by_cases hn16 : n < 16
      · have hni : (n : Int) < 16 := by omega
        obtain ⟨c, hc⟩ : ∃ c, c = n % 4 := ⟨_, rfl⟩
        have hc4 : c < 4 := by omega
        have hm2 : Int.tmod (n : Int) 4 = (c : Int) := by rw [hc]; exact (Int.ofNat_tmod n 4).symm
        have hq : IntKind.i64.wrap (c : Int) = (c : Int) := by rw [IntKind.wrap_i64]; omega
        have HC := Lib.hid hc
        clear hc
        go_upto_region 7 with fail
        refine wp_then_k (fun KK hKK => ?_)
        go_cut [] from 31 to 59 (fun W => TU w bs bo a b (zpad (ttS a b (n + 1)).1 (n + 1)) (!ok || (ttS a b (n + 1)).2) W)
        case first =>
          rename_i J K' hJ hK
          obtain ⟨l1, l2⟩ := hT.l
          refine region_sim (als := []) (rd := rdU7) (V := vU7 w.heap.size (w.heap.size + 1) bs bo n c a b) (J := OKm wo bs bo (badL false [false, (dotS (lrow (rowT a (n / 4))) (lrow (colT b c)) 4).2]) (fcT (zpad (ttS a b n).1 n) ((zpad (ttS a b n).1 n).set n (dotS (lrow (rowT a (n / 4))) (lrow (colT b c)) 4).1)) 44) (base := 31) (L := opsU7) mixO (by kernel_rfl) (by intro t h; simp [ixOf] at h) okU7 (regU7 wo w.heap.size (w.heap.size + 1) bs bo n c a b (zpad (ttS a b n).1 n) false ha hb (zpad_lenS a b n hn) hn16 hc4 hT.s.lt (blk_lt hT.o) (by omega) hT.t.ta (blk_lt hT.t.ta) (by omega) (by omega) hT.t.tb (blk_lt hT.t.tb) (by omega) (by omega)) ?_ (by rw [lnU7.1]; simp) ?_ (ok_start hT.s hT.o)
          · intro mm a' W hJW hmade hsz hkeep hlow hup hal
            rw [lnU7.1, lnU7.2] at hJW
            rw [lnU7.1] at hkeep
            have kp := hkeep.2.2
            have hOK : OK wo bs bo _ _ 44 3 W := hJW
            have hTn := hT.stepK hOK rfl (ys := zpad (ttS a b (n + 1)).1 (n + 1)) (by rw [← zpad_setS a b n hn16, ← row_col, ← HC.out]; rfl)
            have hbn : (!ok || (ttS a b (n + 1)).2) = badL false [false, (dotS (lrow (rowT a (n / 4))) (lrow (colT b c)) 4).2] 3 := by
              show (!ok || ((ttS a b n).2 || (dotS (trow a (n / 4)) (tcol b (n % 4)) 4).2)) = ((false || false) || (dotS (lrow (rowT a (n / 4))) (lrow (colT b c)) 4).2)
              rw [← row_col a b (n / 4) (n % 4), ← HC.out, ← Bool.or_assoc, hbd]
              rfl
            exact hK _ _ (Met.intro (hJ _ _ ⟨a'.eval (.tmp 31), a'.eval (.tmp 32), a'.eval (.tmp 33), a'.eval (.tmp 34), a'.eval (.tmp 35), a'.eval (.tmp 36), a'.eval (.tmp 37), a'.eval (.tmp 38), a'.eval (.tmp 39), a'.eval (.tmp 40), a'.eval (.tmp 41), a'.eval (.tmp 42), a'.eval (.tmp 43), a'.eval (.tmp 44), a'.eval (.tmp 45), a'.eval (.tmp 46), a'.eval (.tmp 47), a'.eval (.tmp 48), a'.eval (.tmp 49), a'.eval (.tmp 50), a'.eval (.tmp 51), a'.eval (.tmp 52), a'.eval (.tmp 53), a'.eval (.tmp 54), a'.eval (.tmp 55), a'.eval (.tmp 56), a'.eval (.tmp 57), a'.eval (.tmp 58), a'.eval (.tmp 59), by rw [hbn]; exact hTn, act_ext3 67 _ rfl hkeep.2.1 hkeep.1 (fun t ht => match t, ht with | 0, _ => (kp 0 (by decide)) | 1, _ => (kp 1 (by decide)) | 2, _ => (kp 2 (by decide)) | 3, _ => (kp 3 (by decide)) | 4, _ => (kp 4 (by decide)) | 5, _ => (kp 5 (by decide)) | 6, _ => (kp 6 (by decide)) | 7, _ => (kp 7 (by decide)) | 8, _ => (kp 8 (by decide)) | 9, _ => (kp 9 (by decide)) | 10, _ => (kp 10 (by decide)) | 11, _ => (kp 11 (by decide)) | 12, _ => (kp 12 (by decide)) | 13, _ => (kp 13 (by decide)) | 14, _ => (kp 14 (by decide)) | 15, _ => (kp 15 (by decide)) | 16, _ => (kp 16 (by decide)) | 17, _ => (kp 17 (by decide)) | 18, _ => (kp 18 (by decide)) | 19, _ => (kp 19 (by decide)) | 20, _ => (kp 20 (by decide)) | 21, _ => (kp 21 (by decide)) | 22, _ => (kp 22 (by decide)) | 23, _ => (kp 23 (by decide)) | 24, _ => (kp 24 (by decide)) | 25, _ => (kp 25 (by decide)) | 26, _ => (kp 26 (by decide)) | 27, _ => (kp 27 (by decide)) | 28, _ => (kp 28 (by decide)) | 29, _ => (kp 29 (by decide)) | 30, _ => (kp 30 (by decide)) | 31, _ => rfl | 32, _ => rfl | 33, _ => rfl | 34, _ => rfl | 35, _ => rfl | 36, _ => rfl | 37, _ => rfl | 38, _ => rfl | 39, _ => rfl | 40, _ => rfl | 41, _ => rfl | 42, _ => rfl | 43, _ => rfl | 44, _ => rfl | 45, _ => rfl | 46, _ => rfl | 47, _ => rfl | 48, _ => rfl | 49, _ => rfl | 50, _ => rfl | 51, _ => rfl | 52, _ => rfl | 53, _ => rfl | 54, _ => rfl | 55, _ => rfl | 56, _ => rfl | 57, _ => rfl | 58, _ => rfl | 59, _ => rfl | 60, _ => (kp 60 (.inr (.inr ⟨by decide, by kernel_rfl⟩))) | 61, _ => (kp 61 (by decide)) | 62, _ => (kp 62 (by decide)) | 63, _ => (kp 63 (by decide)) | 64, _ => (kp 64 (by decide)) | 65, _ => (kp 65 (by decide)) | 66, _ => (kp 66 (by decide)) | n + 67, h => absurd h (by omega))⟩))
          · intro t ht
            simp only [rdU7, List.mem_cons, List.not_mem_nil, or_false] at ht
            rcases ht with rfl | rfl | rfl | rfl | rfl | rfl <;> rfl
        clear hT hcs hfs hbd
        rename World => wn
        have hT := hcut
        clear hcut
        refine hKK _ _ ?_
        go_wp2
        go_roundw
        case rel => exact ⟨n + 1, by omega, by go_num, hT⟩
        case measure => simp [intOf]; omega
      · obtain rfl : n = 16 := by omega
        have hE : ttimesS a b = some (ttS a b 16).1 := by
          unfold ttimesS
          rw [← hok, hbd]; rfl
        have hXl := ttS_len a b 16
        obtain ⟨XF, hXF⟩ : ∃ x, x = (ttS a b 16).1 := ⟨_, rfl⟩
        have hpad : zpad (ttS a b 16).1 16 = XF := by rw [hXF]; simp [zpad]
        rw [hpad] at hT
        rw [← hXF] at hE hXl
        have HE := Lib.hid hE
        clear hE hXF hpad hbd hok
        have hOX := hT.o
        have hR := hT.t.tr
        have hB := hT.t.B
        clear hT
        go_wp2_with (first | (refine wpList_load_row rfl 44 _ rfl bo rfl 44 (tbc XF) (0, 0) _ hOX Tryz.underlying44 rfl (szTab XF hXl) ?_) | (refine wpList_store_row rfl 44 _ _ rfl (w.heap.size + 1 + 1) (tbc XF) rfl rfl 44 (tbc zs16) hR (szTab _ hXl) (by rw [tbc_size, tbc_size, hXl]; rfl) (tbc_one _) ?_))
        refine bodyPost_ret (v := tbb (ttimesS a b)) ((results_row_slot Tryz.results69 _ _ (w.heap.size + 1 + 1) 44 (tbc XF) (0, 0) _ rfl (setRow_heap _ _ (tbc zs16) _ _ _ hR) Tryz.underlying44 rfl (szTab _ hXl)).trans ?_) rfl ⟨rfl, below_setRow hB (by omega) _⟩
        rw [HE.out]
        rfl
    · rw [hbd] at hcs hT
      have hE : ttimesS a b = none := by
        unfold ttimesS
        rw [← hok]
        cases ok
        · rfl
        · rw [ttS_mono (by simpa using hbd) 16 hn]; rfl
      have HE := Lib.hid hE
      clear hE hbd hok
      have hR := hT.t.tr
      have hB := hT.t.B
      clear hT
      by_cases hn16 : n < 16
      · have hni : (n : Int) < 16 := by omega
        go_wp2_with (refine wpList_store_row rfl 44 _ _ rfl (w.heap.size + 1 + 1) (tbc zs16) rfl rfl 44 (tbc zs16) hR (szTab _ rfl) rfl (tbc_one _) ?_)
        refine bodyPost_ret (v := tbb (ttimesS a b)) ((results_row_slot Tryz.results69 _ _ (w.heap.size + 1 + 1) 44 (tbc zs16) (0, 0) _ rfl (setRow_heap _ _ (tbc zs16) _ _ _ hR) Tryz.underlying44 rfl (szTab _ rfl)).trans ?_) rfl ⟨rfl, below_setRow hB (by omega) _⟩
        rw [HE.out]
        rfl
      · obtain rfl : n = 16 := by omega
        go_wp2_with (refine wpList_store_row rfl 44 _ _ rfl (w.heap.size + 1 + 1) (tbc zs16) rfl rfl 44 (tbc zs16) hR (szTab _ rfl) rfl (tbc_one _) ?_)
        refine bodyPost_ret (v := tbb (ttimesS a b)) ((results_row_slot Tryz.results69 _ _ (w.heap.size + 1 + 1) 44 (tbc zs16) (0, 0) _ rfl (setRow_heap _ _ (tbc zs16) _ _ _ hR) Tryz.underlying44 rfl (szTab _ rfl)).trans ?_) rfl ⟨rfl, below_setRow hB (by omega) _⟩
        rw [HE.out]
        rfl
theorem stimes_tab (a b : List Fr) (ha : a.length = 16) (hb : b.length = 16) (w : World) :
    Calls Tryz.prog 69 #[.agg (tbc a), .agg (tbc b)] w fun e w' => e = .returned (tbb (ttimesI a b)) ∧ Below w.heap.size w w' := by
  rw [ttimes_eq ha hb]
  exact st_go a b ha hb _ rfl w
end Go.Proofs.YtodhbkinbcemnaaGreatDoor
