/-
  The walk of FnMeterRead: it returns true, for all codes.
-/
import Derived.Test.YtodhbkinbcemnaaGreatDoorQt
import Derived.Test.YtodhbkinbcemnaaGreatDoorQy
import Derived.Test.YtodhbkinbcemnaaGreatDoorQm
namespace Go.Proofs.YtodhbkinbcemnaaGreatDoor
set_option linter.unusedSimpArgs false
set_option linter.unusedVariables false
open Go.RowKit
attribute [local go_sem ↓] Go.wp_at_zero Go.wp_at_succ
theorem plate_R (p q k : Int) (R : Mt) (b : Bool) (w : World) (hO : GO w) (hZ : GZ w) (hT : GT w) (e : Hid (mtb (plateI p q k) = .tuple #[mtv R, .bool b])) : Calls Tryz.prog 10 #[.int .i64 p, .int .i64 q, .int .i64 k] w fun e w' => e = .returned (.tuple #[mtv R, .bool b]) ∧ Below w.heap.size w w' := by
  rw [← e.out]; exact plate_any p q k w hO hZ hT
theorem tab_R (m : Mt) (T : List Fr) (b : Bool) (w : World) (hG : GZ w) (e : Hid (tbb (tabM m) = .tuple #[.agg (tbc T), .bool b])) : Calls Tryz.prog 12 #[.agg (mtc m)] w fun e w' => e = .returned (.tuple #[.agg (tbc T), .bool b]) ∧ Below w.heap.size w w' := by
  rw [← e.out]; exact tableOf_any m w hG
theorem apply_R (T : List Fr) (m N : Mt) (b : Bool) (w : World) (hT : Hid (T.length = 16)) (e : Hid (tkb (tapI T m) = .tuple #[.agg (mtc N), .bool b])) : Calls Tryz.prog 13 #[.agg (tbc T), .agg (mtc m)] w fun e w' => e = .returned (.tuple #[.agg (mtc N), .bool b]) ∧ Below w.heap.size w w' := by
  rw [← e.out]; exact apply_any T m hT.out w
theorem light_R (m : Mt) (l : Bool) (w : World) (e : Hid (liI m = l)) : Calls Tryz.prog 14 #[.agg (mtc m)] w fun e w' => e = .returned (.bool l) ∧ Below w.heap.size w w' := by
  rw [← e.out]; exact light_any m w
theorem mt_formR (o : Option Mt) : ∃ R b, mtb o = .tuple #[mtv R, .bool b] ∧ (b = true → o = some R) := by
  cases o with
  | none => exact ⟨zm, false, rfl, fun h => by cases h⟩
  | some m => exact ⟨m, true, rfl, fun _ => rfl⟩
theorem tap_formR (T : List Fr) (m : Mt) : ∃ N b, tkb (tapI T m) = .tuple #[.agg (mtc N), .bool b] ∧ (b = true → tapI T m = some N) := by
  cases h : tapI T m with
  | none => exact ⟨zm, false, rfl, fun h => by cases h⟩
  | some N => exact ⟨N, true, rfl, fun _ => rfl⟩
theorem tab_formR (m : Mt) : ∃ T b, tbb (tabM m) = .tuple #[.agg (tbc T), .bool b] ∧ T.length = 16 ∧ (b = true → tabM m = some T) := by
  cases h : tabM m with
  | none => exact ⟨zs16, false, rfl, rfl, fun h => by cases h⟩
  | some T => exact ⟨T, true, rfl, tabM_len h, fun _ => rfl⟩
/-- What the benches of one station make, and what is read of it. -/
theorem bench_parts (s : Sta) (m : Mt) (h : rdOk m s = true) : ∃ (PM XX ZZ : Mt) (TT : List Fr) (po to1 xo zo : Bool), Hid (mtb (plateI s.p s.q 1) = .tuple #[mtv PM, .bool po]) ∧ Hid (tbb (tabM PM) = .tuple #[.agg (tbc TT), .bool to1]) ∧ Hid (TT.length = 16) ∧ Hid (tkb (tapI TT m) = .tuple #[.agg (mtc XX), .bool xo]) ∧ Hid (tkb (tapI filtT XX) = .tuple #[.agg (mtc ZZ), .bool zo]) ∧ Hid (po = true → to1 = true → xo = true → zo = true → ZZ.a = rdG m s) := by
  obtain ⟨PM, po, h1, h1'⟩ := mt_formR (plateI s.p s.q 1)
  obtain ⟨TT, to1, h2, hl, h2'⟩ := tab_formR PM
  obtain ⟨XX, xo, h3, h3'⟩ := tap_formR TT m
  obtain ⟨ZZ, zo, h4, h4'⟩ := tap_formR filtT XX
  exact ⟨PM, XX, ZZ, TT, po, to1, xo, zo, Lib.hid h1, Lib.hid h2, Lib.hid hl, Lib.hid h3, Lib.hid h4, Lib.hid fun a b c d => bench_law (h1' a) (h2' b) (h3' c) (h4' d) h⟩
theorem sas_atR {s : Sta} {W : World} {b o cap : Nat} (h : PAt W b o s) (hb : b < W.heap.size) (hc : 1 ≤ cap) (hc2 : cap ≤ 9223372036854775807) : Sas (some ⟨b, o, none⟩) 1 cap [s] W := by
  refine ⟨rfl, hc, hc2, fun _ => ⟨b, o, rfl, hb, fun i x hi => ?_⟩⟩
  match i, hi with
  | 0, hi =>
    obtain rfl := Option.some.inj hi
    rw [Nat.zero_mul, Nat.add_zero]
    exact h
theorem blk_putM {W : World} {b : Nat} {m0 : Mt} {ty : TypeId} (h : Blk W b (mtc m0) ty) (m : Mt) : Blk (((((((((((((W).setCell ⟨b, 0, none⟩ (.int .i64 m.a.re)).setCell ⟨b, 1, none⟩ (.int .i64 m.a.im)).setCell ⟨b, 2, none⟩ (.int .i64 m.a.den)).setCell ⟨b, 3, none⟩ (.int .i64 m.b.re)).setCell ⟨b, 4, none⟩ (.int .i64 m.b.im)).setCell ⟨b, 5, none⟩ (.int .i64 m.b.den)).setCell ⟨b, 6, none⟩ (.int .i64 m.c.re)).setCell ⟨b, 7, none⟩ (.int .i64 m.c.im)).setCell ⟨b, 8, none⟩ (.int .i64 m.c.den)).setCell ⟨b, 9, none⟩ (.int .i64 m.d.re)).setCell ⟨b, 10, none⟩ (.int .i64 m.d.im)).setCell ⟨b, 11, none⟩ (.int .i64 m.d.den)) b (mtc m) ty := by
  have h1 := blk_put (xs := row4 m0) h (i := 0) (show 0 < 4 by decide) m.a
  have h2 := blk_put h1 (i := 1) (show 1 < 4 by decide) m.b
  have h3 := blk_put h2 (i := 2) (show 2 < 4 by decide) m.c
  exact blk_put h3 (i := 3) (show 3 < 4 by decide) m.d
theorem read_allR {xs : List Sta} {m : Mt} {rs : List Fr} (h : readM xs m = some rs) : mreal m = true ∧ rs.length = xs.length ∧ ∀ (k : Nat) (s : Sta), xs[k]? = some s → rdOk m s = true ∧ rs[k]? = some (rdG m s) ∧ readM [s] m = some [rdG m s] := by
  obtain ⟨h1, h2, h3, rfl⟩ := read_some h
  refine ⟨h2, by simp, fun k s hs => ?_⟩
  have hk := h3 s (List.mem_of_getElem? hs)
  refine ⟨hk, by rw [List.getElem?_map, hs]; rfl, ?_⟩
  unfold readM
  rw [if_pos (by simp [h2, hk])]
  rfl
section
attribute [local go_sem] eqF_runt
set_option maxRecDepth 100000 in
set_option maxHeartbeats 8000000 in
theorem fnMeterRead_walk (A : Option Addr) (len cap : Nat) (w : World) (hby : Bytes A len cap w) (hGO : GO w) (hGZ : GZ w) (hGT : GT w) :
    Calls Tryz.prog 3 #[.slice A len cap] w fun e w' => e = .returned (.bool true) ∧ Below w.heap.size w w' := by
  have hcap := hby.2.1
  have hlc := hby.1
  by_cases hbig : 1048576 < len
  · have hd : decide ((1048576 : Int) < (len : Int)) = true := by simp; omega
    go_enter Tryz.func3, Tryz.ntmps3
    go_wp2
    go_ret
    exact ⟨rfl, by exact below_⟩
  have hd : decide ((1048576 : Int) < (len : Int)) = false := by simp; omega
  go_enter Tryz.func3, Tryz.ntmps3
  go_upto_region 4 with (first | (go_at_call 6; (with_reducible refine (drawMeterRead_any A len cap _ hby).mono ?_); rintro e V ⟨xs, m, v, rfl, ⟨hOA, hxl⟩, hBV⟩))
  obtain ⟨A1, c1, rfl, hS⟩ := hOA.frs
  obtain ⟨m1, hm1⟩ : ∃ n, n = xs.length := ⟨_, rfl⟩
  rw [← hm1] at hS hxl ⊢
  obtain ⟨b4, hb4⟩ : ∃ b, b = V.heap.size := ⟨_, rfl⟩
  obtain ⟨W3, hW3, hM, hB, hS3⟩ : ∃ W, W = V.alloc (.cells #[.int .i64 m.a.re, .int .i64 m.a.im, .int .i64 m.a.den, .int .i64 m.b.re, .int .i64 m.b.im, .int .i64 m.b.den, .int .i64 m.c.re, .int .i64 m.c.im, .int .i64 m.c.den, .int .i64 m.d.re, .int .i64 m.d.im, .int .i64 m.d.den] 28) ∧ Blk W b4 (mtc m) 28 ∧ Below w.heap.size w W ∧ Sas A1 m1 c1 xs W := ⟨_, rfl, by rw [hb4]; exact heap_alloc_last V _, hBV.alloc hBV.size _, hS.below ((Below.refl _ _).alloc (Nat.le_refl _) _)⟩
  rw [← hW3, ← hb4]
  have HXL := Lib.hid hm1
  clear hW3 hb4 hS hBV hOA hm1
  have hS := hS3
  clear hS3
  obtain ⟨rs, ok, hq⟩ : ∃ rs ok, (readM xs m).getD [] = rs ∧ (readM xs m).isSome = ok := ⟨_, _, rfl, rfl⟩
  have hrl : rs.length ≤ 16 := by rw [← hq.1]; exact read_lenT
  have HC := Lib.hid hq
  clear hq
  obtain ⟨p0, p1, p2, p3, p4, p5, p6, p7, p8, p9, p10, p11⟩ := blk_m hM
  go_upto_region 5 with (first | (go_at_call 7; (with_reducible refine (readT A1 m1 c1 xs m rs ok _ hS (hGO.below hB) (hGZ.below hB) (hGT.below hB) HC).mono ?_); rintro e w4 ⟨v5, rfl, O5, hb⟩))
  clear p0 p1 p2 p3 p4 p5 p6 p7 p8 p9 p10 p11
  have hM := (hb.block _ (blk_lt hM)).trans hM
  have hS := hS.below hb
  have hB : Below w.heap.size w w4 := bstep hB hb hB.size
  clear hb
  obtain ⟨p0, p1, p2, p3, p4, p5, p6, p7, p8, p9, p10, p11⟩ := blk_m hM
  go_upto_region 6 with (first | (go_at_call 8; (with_reducible refine (sreadT A1 m1 c1 xs m rs ok _ hS HC).mono ?_); rintro e w5 ⟨v7, rfl, O7, hb⟩))
  clear p0 p1 p2 p3 p4 p5 p6 p7 p8 p9 p10 p11
  have hM := (hb.block _ (blk_lt hM)).trans hM
  have hS := hS.below hb
  have hB : Below w.heap.size w w5 := bstep hB hb hB.size
  have O5 := O5.below hb
  clear hb
  obtain ⟨A5, c5, rfl, hF5⟩ := O5.frs
  obtain ⟨A7, c7, rfl, hF7⟩ := O7.frs
  obtain ⟨n1, hn1⟩ : ∃ n, n = rs.length := ⟨_, rfl⟩
  rw [← hn1] at hrl hF5 hF7 ⊢
  have HN := Lib.hid hn1
  clear hn1 O5 O7
  cases hk : ok
  · go_wp2_with (first | (go_at_call 9; (with_reducible refine (sameFrs_refl A5 A7 n1 c5 c7 rs _ hF5 hF7).mono ?_); rintro e w6 ⟨rfl, hb⟩; have hF5 := hF5.below hb; have hF7 := hF7.below hb; have hS := hS.below hb; have hM := (hb.block _ (blk_lt hM)).trans hM; have hB := bstep hB hb hB.size; clear hb))
    go_ret
    exact ⟨rfl, by exact below_⟩
  have hrd : readM xs m = some rs := by
    obtain ⟨h1, h2⟩ := HC.out
    rw [hk] at h2
    obtain ⟨x, hx⟩ := Option.isSome_iff_exists.1 h2
    rw [hx, Option.getD_some] at h1
    rw [hx, h1]
  have HRD := Lib.hid hrd
  clear hrd hk HC
  obtain ⟨hmr, hnl, hall⟩ := read_allR HRD.out
  obtain rfl : n1 = m1 := by rw [HN.out, hnl, ← HXL.out]
  have HALL := Lib.hid hall
  have HMR := Lib.hid hmr
  clear hall hmr hnl
  obtain ⟨lit, hlit⟩ : ∃ l, liI m = l := ⟨_, rfl⟩
  have HLI := Lib.hid hlit
  clear hlit
  go_upto_region 8 with (first | (go_at_call 9; (with_reducible refine (sameFrs_refl A5 A7 n1 c5 c7 rs _ hF5 hF7).mono ?_); rintro e w6 ⟨rfl, hb⟩; have hF5 := hF5.below hb; have hF7 := hF7.below hb; have hS := hS.below hb; have hM := (hb.block _ (blk_lt hM)).trans hM; have hB := bstep hB hb hB.size; clear hb))
  have hc1 := hS.2.1
  have hc2 := hS.2.2.1
  have HMB := Lib.hid hM
  have hlM := blk_lt hM
  have hBW := hB
  go_wp2
  go_loopw [9] (fun i wr => ∃ k : Nat, k ≤ n1 ∧ i = .int .i64 k ∧ Below w6.heap.size w6 wr) (fun i _ => n1 - (intOf i).toNat)
  case atStart => exact ⟨0, Nat.zero_le _, rfl, Below.refl _ _⟩
  case round =>
    rename World => wr
    obtain ⟨k, hk, rfl, hbr⟩ := hrel
    have hz := hbr.size
    by_cases hkl : k < n1
    · obtain ⟨b1, o1, s, rfl, hlt1, hs1, hst⟩ := hS.at hbr hkl
      obtain ⟨b5, o5, g, rfl, hlt5, hg1, hcg⟩ := hF5.at hbr hkl
      obtain ⟨hok, hgs, hrs⟩ := HALL.out k s hs1
      obtain rfl : g = rdG m s := by rw [hg1] at hgs; exact Option.some.inj hgs
      obtain ⟨g, hg⟩ : ∃ g, g = rdG m s := ⟨_, rfl⟩
      rw [← hg] at hrs hcg
      have HRS : Hid ((readM [s] m).getD [] = [g] ∧ (readM [s] m).isSome = true) := Lib.hid (by rw [hrs]; exact ⟨rfl, rfl⟩)
      obtain ⟨PM, XX, ZZ, TT, po, to1, xo, zo, HPM, HTT, HTL, HXX, HZZ, HBE⟩ := bench_parts s m hok
      rw [← hg] at HBE
      have hll : lit = true → 0 ≤ g.re := fun h => by
        obtain ⟨q1, q2, q3⟩ := light_q (HLI.out.trans h)
        rw [hg]; exact light_law q1 hok q2 q3
      have HLL := Lib.hid hll
      have HST : Hid (∀ W, Below w6.heap.size w6 W → PAt W b1 (o1 + k * 2) s) := Lib.hid fun W hW => by
        obtain ⟨b', o', s', e, -, hs', h'⟩ := hS.at hW hkl
        simp only [Option.some.injEq, Addr.mk.injEq, and_true] at e
        obtain ⟨rfl, rfl⟩ := e
        rw [hs1] at hs'
        obtain rfl := Option.some.inj hs'
        exact h'
      have HGT2 : Hid (∀ W, Below w6.heap.size w6 W → FAt W b5 (o5 + k * 3) g) := Lib.hid fun W hW => by
        obtain ⟨b', o', s', e, -, hs', h'⟩ := hF5.at hW hkl
        simp only [Option.some.injEq, Addr.mk.injEq, and_true] at e
        obtain ⟨rfl, rfl⟩ := e
        rw [hg1] at hs'
        obtain rfl := Option.some.inj hs'
        rw [hg]; exact h'
      clear hst hcg hs1 hg1 hgs hrs hll hok hg
      have hki : (k : Int) < (n1 : Int) := by omega
      have hk0 : (0 : Int) ≤ (k : Int) := by omega
      have i7 : IntKind.i64.wrap ((k : Int) + 1) = (k : Int) + 1 := IntWalk.i64_in _ (by omega)
      have hkc : ¬ (c1 = k) := by omega
      have hk1c : (k : Int) + 1 ≤ (c1 : Int) := by omega
      have hk2c : (k : Int) ≤ (c1 : Int) := by omega
      have hk3c : (k : Int) ≤ (k : Int) + 1 := by omega
      have hk4c : (k : Int) + 1 - (k : Int) = 1 := by omega
      have hk5c : (0 : Int) ≤ (k : Int) + 1 := by omega
      go_upto_region 11 with fail
      go_cut [10, 11] from 71 to 80 (fun s10 s11 W => s11 = .bool true ∧ OwF 0 s10 [g] W ∧ Below wr.heap.size wr W)
      case first =>
        have hSx : ∀ W, Below wr.heap.size wr W → W.cell? ⟨b4, 0, none⟩ = some (.int .i64 m.a.re) ∧ W.cell? ⟨b4, 1, none⟩ = some (.int .i64 m.a.im) ∧ W.cell? ⟨b4, 2, none⟩ = some (.int .i64 m.a.den) ∧ W.cell? ⟨b4, 3, none⟩ = some (.int .i64 m.b.re) ∧ W.cell? ⟨b4, 4, none⟩ = some (.int .i64 m.b.im) ∧ W.cell? ⟨b4, 5, none⟩ = some (.int .i64 m.b.den) ∧ W.cell? ⟨b4, 6, none⟩ = some (.int .i64 m.c.re) ∧ W.cell? ⟨b4, 7, none⟩ = some (.int .i64 m.c.im) ∧ W.cell? ⟨b4, 8, none⟩ = some (.int .i64 m.c.den) ∧ W.cell? ⟨b4, 9, none⟩ = some (.int .i64 m.d.re) ∧ W.cell? ⟨b4, 10, none⟩ = some (.int .i64 m.d.im) ∧ W.cell? ⟨b4, 11, none⟩ = some (.int .i64 m.d.den) := fun W h => by
          have hq := (h.block b4 (by omega)).trans ((hbr.block b4 hlM).trans HMB.out)
          obtain ⟨p0, p1, p2, p3, p4, p5, p6, p7, p8, p9, p10, p11⟩ := blk_m hq
          exact ⟨p0, p1, p2, p3, p4, p5, p6, p7, p8, p9, p10, p11⟩
        go_region_held3 (fun W => W.cell? ⟨b4, 0, none⟩ = some (.int .i64 m.a.re) ∧ W.cell? ⟨b4, 1, none⟩ = some (.int .i64 m.a.im) ∧ W.cell? ⟨b4, 2, none⟩ = some (.int .i64 m.a.den) ∧ W.cell? ⟨b4, 3, none⟩ = some (.int .i64 m.b.re) ∧ W.cell? ⟨b4, 4, none⟩ = some (.int .i64 m.b.im) ∧ W.cell? ⟨b4, 5, none⟩ = some (.int .i64 m.b.den) ∧ W.cell? ⟨b4, 6, none⟩ = some (.int .i64 m.c.re) ∧ W.cell? ⟨b4, 7, none⟩ = some (.int .i64 m.c.im) ∧ W.cell? ⟨b4, 8, none⟩ = some (.int .i64 m.c.den) ∧ W.cell? ⟨b4, 9, none⟩ = some (.int .i64 m.d.re) ∧ W.cell? ⟨b4, 10, none⟩ = some (.int .i64 m.d.im) ∧ W.cell? ⟨b4, 11, none⟩ = some (.int .i64 m.d.den)) ((refine hSx _ ?_; exact below_)) (first | (go_at_call 7; (with_reducible refine (readT (some ⟨b1, o1 + k * 2, none⟩) 1 (c1 - k) [s] m [g] true _ (sas_atR (HST.out _ (bstep hbr (show Below wr.heap.size wr _ by exact below_) hz)) (by simp; omega) (by omega) (by omega)) (hGO.below (bstep hBW (bstep hbr (show Below wr.heap.size wr _ by exact below_) hz) hBW.size)) (hGZ.below (bstep hBW (bstep hbr (show Below wr.heap.size wr _ by exact below_) hz) hBW.size)) (hGT.below (bstep hBW (bstep hbr (show Below wr.heap.size wr _ by exact below_) hz) hBW.size)) HRS).mono ?_); rintro e w11 ⟨v11, rfl, O6, hb⟩; have hB1 : Below wr.heap.size wr w11 := bstep (show Below wr.heap.size wr _ by exact below_) hb (by first | omega | exact Nat.le_refl _ | (simp; done)); clear hb))
        all_goals (try go_wp2)
        all_goals (go_meet; exact ⟨rfl, O6.mono (Nat.zero_le _), by exact below_⟩)
      rename World => wx
      obtain ⟨q11, O6, hbx⟩ := hcut
      subst q11
      obtain ⟨A6, c6, rfl, hF6⟩ := O6.frs
      have hB2 : Below w6.heap.size w6 wx := bstep hbr hbx hz
      obtain ⟨b6, o6, g6, rfl, hlt6, hg6, hc6⟩ := hF6.at (Below.refl _ _) (show 0 < 1 by decide)
      obtain rfl : g = g6 := Option.some.inj hg6
      obtain ⟨d0, d1, d2⟩ := hc6
      simp only [Nat.zero_mul, Nat.add_zero] at d0 d1 d2
      obtain ⟨e0, e1, e2⟩ := HGT2.out _ hB2
      rw [show [g].length = 1 from rfl] at *
      clear hg6 O6
      go_upto_region 12 with fail
      go_quiet (fail)
      clear d0 d1 d2 e0 e1 e2
      go_upto_region 14 with fail
      go_cut [12, 13] from 98 to 111 (fun s12 s13 W => s13 = .bool po ∧ ∃ bP : Nat, s12 = .pointer (some ⟨bP, 0, none⟩) ∧ w6.heap.size ≤ bP ∧ Blk W bP (mtc PM) 36 ∧ Below wx.heap.size wx W)
      case first =>
        have hz2 := hB2.size
        have hSx : ∀ W, Below wx.heap.size wx W → W.cell? ⟨b1, o1 + k * 2, none⟩ = some (.int .i64 s.p) ∧ W.cell? ⟨b1, o1 + k * 2 + 1, none⟩ = some (.int .i64 s.q) := fun W h => HST.out W (bstep hB2 h hz2)
        go_region_held3 (fun W => W.cell? ⟨b1, o1 + k * 2, none⟩ = some (.int .i64 s.p) ∧ W.cell? ⟨b1, o1 + k * 2 + 1, none⟩ = some (.int .i64 s.q)) ((refine hSx _ ?_; exact below_)) (first | (go_at_call 10; (with_reducible refine (plate_R s.p s.q 1 PM po _ (hGO.below (bstep hBW (bstep hB2 (show Below wx.heap.size wx _ by exact below_) hz2) hBW.size)) (hGZ.below (bstep hBW (bstep hB2 (show Below wx.heap.size wx _ by exact below_) hz2) hBW.size)) (hGT.below (bstep hBW (bstep hB2 (show Below wx.heap.size wx _ by exact below_) hz2) hBW.size)) HPM).mono ?_); rintro e w11 ⟨rfl, hb⟩; have hB3 : Below wx.heap.size wx w11 := bstep (show Below wx.heap.size wx _ by exact below_) hb (by first | omega | exact Nat.le_refl _ | (simp; done)); have hz3 := hB3.size; (first | (have hA2 : Blk w11 wx.heap.size (mtc zm) 36 := (hb.block _ (by simp; done)).trans (heap_alloc_last _ _); obtain ⟨e0, e1, e2, e3, e4, e5, e6, e7, e8, e9, e10, e11⟩ := blk_m hA2; have e3 := blk_free hA2) | skip); clear hb))
        all_goals (try go_wp2)
        all_goals (go_meet; refine ⟨rfl, _, rfl, ?_, ?_, ?_⟩)
        all_goals first | omega | (with_reducible exact blk_putM hA2 PM) | (show Below wx.heap.size wx _; exact below_) | exact heap_alloc_last _ _
      rename World => wy
      obtain ⟨q13, bP, q12, hbP, hPM, hby2⟩ := hcut
      subst q13 q12
      have hz2 := hB2.size
      have H1 : Hid (MH w6 [(bP, mtc PM, 36)] wy) := Lib.hid ⟨bstep hB2 hby2 hz2, by simpa using ⟨hbP, hPM⟩⟩
      clear hbP hPM hby2 hB2 hbx hz2 hF6 hlt6
      have HFL : Hid (filtT.length = 16) := Lib.hid (by rfl)
      go_upto_region 20 with (first
        | (go_at_call 11; (with_reducible refine (filter_10 _).mono ?_); rintro e w12 ⟨rfl, hb⟩; have H2 := Lib.hid (H1.out.call hb); clear hb)
        | (refine wpList_store_row rfl 36 _ _ rfl w12.heap.size (mtc filtM) rfl rfl 36 (#[.int .i64 0, .int .i64 0, .int .i64 0, .int .i64 0, .int .i64 0, .int .i64 0, .int .i64 0, .int .i64 0, .int .i64 0, .int .i64 0, .int .i64 0, .int .i64 0]) (heap_alloc_last w12 _) (szMat filtM) rfl (mtc_one filtM) ?_; have H3 := Lib.hid (MH.put (z := #[.int .i64 0, .int .i64 0, .int .i64 0, .int .i64 0, .int .i64 0, .int .i64 0, .int .i64 0, .int .i64 0, .int .i64 0, .int .i64 0, .int .i64 0, .int .i64 0]) (cs := mtc filtM) (ty := 36) H2.out))
        | (refine wpList_load_row rfl 36 _ rfl bP rfl 36 (mtc PM) (0, 0) _ (H3.out.at (by simp)) Tryz.underlying36 rfl (szMat PM) ?_)
        | (go_at_call 12; (with_reducible refine (tab_R PM TT to1 _ (hGZ.below (hBW.trans (H3.out.B.mono hBW.size))) HTT).mono ?_); rintro e w13 ⟨rfl, hb⟩; have H4 := Lib.hid (H3.out.call hb); clear hb)
        | (refine wpList_store_row rfl 44 _ _ rfl w13.heap.size (tbc TT) rfl rfl 44 (#[.int .i64 0, .int .i64 0, .int .i64 0, .int .i64 0, .int .i64 0, .int .i64 0, .int .i64 0, .int .i64 0, .int .i64 0, .int .i64 0, .int .i64 0, .int .i64 0, .int .i64 0, .int .i64 0, .int .i64 0, .int .i64 0, .int .i64 0, .int .i64 0, .int .i64 0, .int .i64 0, .int .i64 0, .int .i64 0, .int .i64 0, .int .i64 0, .int .i64 0, .int .i64 0, .int .i64 0, .int .i64 0, .int .i64 0, .int .i64 0, .int .i64 0, .int .i64 0, .int .i64 0, .int .i64 0, .int .i64 0, .int .i64 0, .int .i64 0, .int .i64 0, .int .i64 0, .int .i64 0, .int .i64 0, .int .i64 0, .int .i64 0, .int .i64 0, .int .i64 0, .int .i64 0, .int .i64 0, .int .i64 0]) (heap_alloc_last w13 _) (szTab TT HTL.out) (by rw [tbc_size, HTL.out]; rfl) (tbc_one _) ?_; have H5 := Lib.hid (MH.put (z := #[.int .i64 0, .int .i64 0, .int .i64 0, .int .i64 0, .int .i64 0, .int .i64 0, .int .i64 0, .int .i64 0, .int .i64 0, .int .i64 0, .int .i64 0, .int .i64 0, .int .i64 0, .int .i64 0, .int .i64 0, .int .i64 0, .int .i64 0, .int .i64 0, .int .i64 0, .int .i64 0, .int .i64 0, .int .i64 0, .int .i64 0, .int .i64 0, .int .i64 0, .int .i64 0, .int .i64 0, .int .i64 0, .int .i64 0, .int .i64 0, .int .i64 0, .int .i64 0, .int .i64 0, .int .i64 0, .int .i64 0, .int .i64 0, .int .i64 0, .int .i64 0, .int .i64 0, .int .i64 0, .int .i64 0, .int .i64 0, .int .i64 0, .int .i64 0, .int .i64 0, .int .i64 0, .int .i64 0, .int .i64 0]) (cs := tbc TT) (ty := 44) H4.out))
        | (refine wpList_load_row rfl 36 _ rfl w12.heap.size rfl 36 (mtc filtM) (0, 0) _ (H5.out.at (by simp)) Tryz.underlying36 rfl (szMat filtM) ?_)
        | (go_at_call 12; (with_reducible refine (tableOf_f _ (hGZ.below (hBW.trans (H5.out.B.mono hBW.size)))).mono ?_); rintro e w14 ⟨rfl, hb⟩; have H6 := Lib.hid (H5.out.call hb); clear hb)
        | (refine wpList_store_row rfl 44 _ _ rfl w14.heap.size (tbc filtT) rfl rfl 44 (#[.int .i64 0, .int .i64 0, .int .i64 0, .int .i64 0, .int .i64 0, .int .i64 0, .int .i64 0, .int .i64 0, .int .i64 0, .int .i64 0, .int .i64 0, .int .i64 0, .int .i64 0, .int .i64 0, .int .i64 0, .int .i64 0, .int .i64 0, .int .i64 0, .int .i64 0, .int .i64 0, .int .i64 0, .int .i64 0, .int .i64 0, .int .i64 0, .int .i64 0, .int .i64 0, .int .i64 0, .int .i64 0, .int .i64 0, .int .i64 0, .int .i64 0, .int .i64 0, .int .i64 0, .int .i64 0, .int .i64 0, .int .i64 0, .int .i64 0, .int .i64 0, .int .i64 0, .int .i64 0, .int .i64 0, .int .i64 0, .int .i64 0, .int .i64 0, .int .i64 0, .int .i64 0, .int .i64 0, .int .i64 0]) (heap_alloc_last w14 _) (szTab filtT HFL.out) (by rw [tbc_size, HFL.out]; rfl) (tbc_one _) ?_; have H7 := Lib.hid (MH.put (z := #[.int .i64 0, .int .i64 0, .int .i64 0, .int .i64 0, .int .i64 0, .int .i64 0, .int .i64 0, .int .i64 0, .int .i64 0, .int .i64 0, .int .i64 0, .int .i64 0, .int .i64 0, .int .i64 0, .int .i64 0, .int .i64 0, .int .i64 0, .int .i64 0, .int .i64 0, .int .i64 0, .int .i64 0, .int .i64 0, .int .i64 0, .int .i64 0, .int .i64 0, .int .i64 0, .int .i64 0, .int .i64 0, .int .i64 0, .int .i64 0, .int .i64 0, .int .i64 0, .int .i64 0, .int .i64 0, .int .i64 0, .int .i64 0, .int .i64 0, .int .i64 0, .int .i64 0, .int .i64 0, .int .i64 0, .int .i64 0, .int .i64 0, .int .i64 0, .int .i64 0, .int .i64 0, .int .i64 0, .int .i64 0]) (cs := tbc filtT) (ty := 44) H6.out))
        | (refine wpList_load_row rfl 44 _ rfl w13.heap.size rfl 44 (tbc TT) (0, 0) _ (H7.out.at (by simp)) Tryz.underlying44 rfl (szTab TT HTL.out) ?_)
        | (refine wpList_load_row rfl 28 _ rfl b4 rfl 28 (mtc m) (0, 0) _ ((H7.out.B.block _ hlM).trans HMB.out) Tryz.underlying28 rfl (szStkD m) ?_)
        | (go_at_call 13; (with_reducible refine (apply_R TT m XX xo _ HTL HXX).mono ?_); rintro e w15 ⟨rfl, hb⟩; have H8 := Lib.hid (H7.out.call hb); clear hb)
        | (refine wpList_store_row rfl 28 _ _ rfl w15.heap.size (mtc XX) rfl rfl 28 (#[.int .i64 0, .int .i64 0, .int .i64 0, .int .i64 0, .int .i64 0, .int .i64 0, .int .i64 0, .int .i64 0, .int .i64 0, .int .i64 0, .int .i64 0, .int .i64 0]) (heap_alloc_last w15 _) (szStkD XX) rfl (mtc_one XX) ?_; have H9 := Lib.hid (MH.put (z := #[.int .i64 0, .int .i64 0, .int .i64 0, .int .i64 0, .int .i64 0, .int .i64 0, .int .i64 0, .int .i64 0, .int .i64 0, .int .i64 0, .int .i64 0, .int .i64 0]) (cs := mtc XX) (ty := 28) H8.out))
        | (refine wpList_load_row rfl 44 _ rfl w14.heap.size rfl 44 (tbc filtT) (0, 0) _ (H9.out.at (by simp)) Tryz.underlying44 rfl (szTab filtT HFL.out) ?_)
        | (refine wpList_load_row rfl 28 _ rfl w15.heap.size rfl 28 (mtc XX) (0, 0) _ (H9.out.at (by simp)) Tryz.underlying28 rfl (szStkD XX) ?_)
        | (go_at_call 13; (with_reducible refine (apply_R filtT XX ZZ zo _ HFL HZZ).mono ?_); rintro e w16 ⟨rfl, hb⟩; have HA := Lib.hid (H9.out.call hb); clear hb)
        | (refine wpList_store_row rfl 28 _ _ rfl w16.heap.size (mtc ZZ) rfl rfl 28 (#[.int .i64 0, .int .i64 0, .int .i64 0, .int .i64 0, .int .i64 0, .int .i64 0, .int .i64 0, .int .i64 0, .int .i64 0, .int .i64 0, .int .i64 0, .int .i64 0]) (heap_alloc_last w16 _) (szStkD ZZ) rfl (mtc_one ZZ) ?_; have HB := Lib.hid (MH.put (z := #[.int .i64 0, .int .i64 0, .int .i64 0, .int .i64 0, .int .i64 0, .int .i64 0, .int .i64 0, .int .i64 0, .int .i64 0, .int .i64 0, .int .i64 0, .int .i64 0]) (cs := mtc ZZ) (ty := 28) HA.out)))
      obtain ⟨wq, hwq⟩ : ∃ W, W = (w16.alloc (.cells (#[.int .i64 0, .int .i64 0, .int .i64 0, .int .i64 0, .int .i64 0, .int .i64 0, .int .i64 0, .int .i64 0, .int .i64 0, .int .i64 0, .int .i64 0, .int .i64 0]) 28)).setRow w16.heap.size (mtc ZZ) := ⟨_, rfl⟩
      first | (rw [← hwq] at HB ⊢; clear hwq) | (subst hwq)
      have hBq := HB.out.B
      have hzq := HB.out.at (b := w16.heap.size) (cs := mtc ZZ) (ty := 28) (by simp)
      obtain ⟨z0, z1, z2, z3, z4, z5, z6, z7, z8, z9, z10, z11⟩ := blk_m hzq
      obtain ⟨e0, e1, e2⟩ := HGT2.out _ hBq
      clear hzq z3 z4 z5 z6 z7 z8 z9 z10 z11 HA H9 H8 H7 H6 H5 H4 H3 H2 H1 HB
      go_cut [163] from 138 to 163 (fun s163 W => s163 = .bool false ∧ Below w6.heap.size w6 W)
      case first =>
        by_cases hall : po = true ∧ to1 = true ∧ xo = true ∧ zo = true
        · obtain ⟨rfl, rfl, rfl, rfl⟩ := hall
          have hza : ZZ.a = g := HBE.out rfl rfl rfl rfl
          rw [hza] at z0 z1 z2
          clear hza
          go_quiet (fail)
          (try go_wp2)
          go_meet
          exact ⟨rfl, by exact below_⟩
        · clear z0 z1 z2 e0 e1 e2
          cases po <;> cases to1 <;> cases xo <;> cases zo <;> (try (exfalso; exact hall ⟨rfl, rfl, rfl, rfl⟩)) <;> (go_quiet (fail); (try go_wp2); go_meet; exact ⟨rfl, by exact below_⟩)
      rename World => wz
      obtain ⟨q163, hBz⟩ := hcut
      subst q163
      clear e0 e1 e2 z0 z1 z2 hBq
      cases lit with
      | true =>
        have hg0 : ¬ (g.re < 0) := by have := HLL.out rfl; omega
        go_upto_region 10 with (first
          | (refine wpList_load_row rfl 28 _ rfl b4 rfl 28 (mtc m) (0, 0) _ ((hBz.block _ hlM).trans HMB.out) Tryz.underlying28 rfl (szStkD m) ?_)
          | (go_at_call 14; (with_reducible refine (light_R m true _ HLI).mono ?_); rintro e w18 ⟨rfl, hb⟩; have hB8 : Below w6.heap.size w6 w18 := bstep hBz hb hBz.size; obtain ⟨e0, e1, e2⟩ := HGT2.out _ hB8))
        go_wp2
        go_roundw
        case rel => exact ⟨k + 1, by omega, by go_num, by exact below_⟩
        case measure => first | (simp [intOf]; done) | (simp [intOf]; omega)
      | false =>
        go_upto_region 10 with (first
          | (refine wpList_load_row rfl 28 _ rfl b4 rfl 28 (mtc m) (0, 0) _ ((hBz.block _ hlM).trans HMB.out) Tryz.underlying28 rfl (szStkD m) ?_)
          | (go_at_call 14; (with_reducible refine (light_R m false _ HLI).mono ?_); rintro e w18 ⟨rfl, hb⟩; have hB8 : Below w6.heap.size w6 w18 := bstep hBz hb hBz.size))
        go_wp2
        go_roundw
        case rel => exact ⟨k + 1, by omega, by go_num, by exact below_⟩
        case measure => first | (simp [intOf]; done) | (simp [intOf]; omega)
    · obtain rfl : k = n1 := by omega
      have hB9 : Below w.heap.size w wr := bstep hBW hbr hBW.size
      go_wp2
      go_ret
      exact ⟨rfl, hB9⟩
end
end Go.Proofs.YtodhbkinbcemnaaGreatDoor
