/-
  The walks of MeterRead, the program's and the reference's.
-/
import Derived.Test.YtodhbkinbcemnaaGreatDoorYa
import Derived.Test.YtodhbkinbcemnaaGreatDoorUm
import Derived.Test.YtodhbkinbcemnaaGreatDoorTx
import Derived.Test.YtodhbkinbcemnaaGreatDoorPd
namespace Go.Proofs.YtodhbkinbcemnaaGreatDoor
set_option linter.unusedSimpArgs false
set_option linter.unusedVariables false
open Go.RowKit
attribute [local go_sem ↓] Go.wp_at_zero Go.wp_at_succ
theorem allR_succ {xs : List Sta} {m : Mt} {k : Nat} {s : Sta} (h : xs[k]? = some s) : (xs.take (k + 1)).all (rdOk m) = ((xs.take k).all (rdOk m) && rdOk m s) := by
  rw [List.take_add_one, h]; simp
theorem allR_fails {xs : List Sta} {m : Mt} {k : Nat} {s : Sta} (h : xs[k]? = some s) (hs : rdOk m s = false) : xs.all (rdOk m) = false := by
  have hm : s ∈ xs := List.mem_of_getElem? h
  rw [Bool.eq_false_iff]
  intro hc
  rw [List.all_eq_true.1 hc s hm] at hs
  cases hs
theorem rdG_next {xs : List Sta} {m : Mt} {k : Nat} {s : Sta} (h : xs[k]? = some s) : (xs.take (k + 1)).map (rdG m) = (xs.take k).map (rdG m) ++ [rdG m s] := by
  rw [List.take_add_one, h, List.map_append]; rfl
theorem x_read_m (q m : Mt) (F : Fr) (bd : Bool) (bs : Nat) (bad : Bool) (w : World) (hs : SumIs w bs bad) (e : Hid (rdI (row4 q) m = (F, bd))) :
    Calls Tryz.prog 27 #[.pointer (some ⟨bs, 0, none⟩), mtv q, mtv m] w fun e w' => e = .returned (frv F) ∧ SumIs w' bs (bad || bd) ∧ BelX w.heap.size bs w w' := by
  have h := x_read0 (row4 q) (row4 m) rfl rfl bs bad w hs
  rw [show dotI (lrow (row4 q)) (lrow (row4 m)) 4 = (F, bd) from e.out] at h
  exact h
theorem y_read_m (q m : Mt) (F : Fr) (bd : Bool) (bs : Nat) (bad : Bool) (w : World) (hs : OkIs w bs bad) (e : Hid (rdS (row4 q) m = (F, bd))) :
    Calls Tryz.prog 30 #[.pointer (some ⟨bs, 0, none⟩), mtv q, mtv m] w fun e w' => e = .returned (frv F) ∧ OkIs w' bs (bad || bd) ∧ BelX w.heap.size bs w w' := by
  have h := y_row (row4 q) (row4 m) rfl rfl bs bad w hs
  rw [show dotS (lrow (row4 q)) (lrow (row4 m)) 4 = (F, bd) from e.out] at h
  exact h
theorem blk_m {W : World} {b : Nat} {m : Mt} {ty : TypeId} (h : Blk W b (mtc m) ty) : MtAt W b m := by
  have g := fun i (hi : i < 4) => blk_get (xs := row4 m) h (i := i) hi
  obtain ⟨a0, a1, a2⟩ := g 0 (by omega)
  obtain ⟨a3, a4, a5⟩ := g 1 (by omega)
  obtain ⟨a6, a7, a8⟩ := g 2 (by omega)
  obtain ⟨a9, a10, a11⟩ := g 3 (by omega)
  exact ⟨a0, a1, a2, a3, a4, a5, a6, a7, a8, a9, a10, a11⟩
/-- What the reading of one station is, both ways. -/
theorem rd_both {m : Mt} {s : Sta} (hm : mreal m = true) (hs : rowOk s = true) : (rdS (rowG s) m).2 = (rdI (rowG s) m).2 ∧ ((rdI (rowG s) m).2 = false → (rdS (rowG s) m).1 = (rdI (rowG s) m).1) := by
  obtain ⟨h1, h2⟩ := rd_eq (r := rowG s) (m := m) (lrow_real hs) hm
  exact ⟨h1.symm, fun h => (h2 h).1.symm⟩
set_option maxRecDepth 100000 in
set_option maxHeartbeats 16000000 in
theorem read_any (A : Option Addr) (len cap : Nat) (xs : List Sta) (m : Mt) (w : World) (hS : Sas A len cap xs w) (hO : GO w) (hZ : GZ w) (hT : GT w) :
    Calls Tryz.prog 7 #[.slice A len cap, mtv m] w fun e w' => (∃ v, e = .returned (.tuple #[v, .bool (readM xs m).isSome]) ∧ OwF w.heap.size v ((readM xs m).getD []) w') ∧ Below w.heap.size w w' := by
  have hl := hS.2.1
  have hmx := hS.2.2.1
  have HL := Lib.hid hS.1
  have hO0 : OwF (w.heap.size + 1) (.slice (some ⟨w.heap.size + 1, 0, none⟩) 0 0) [] ((w.alloc (.cells #[.int .i64 m.a.re, .int .i64 m.a.im, .int .i64 m.a.den, .int .i64 m.b.re, .int .i64 m.b.im, .int .i64 m.b.den, .int .i64 m.c.re, .int .i64 m.c.im, .int .i64 m.c.den, .int .i64 m.d.re, .int .i64 m.d.im, .int .i64 m.d.den] 28)).alloc (.cells #[] 25)) := by
    have := OwF.made (w.alloc (.cells #[.int .i64 m.a.re, .int .i64 m.a.im, .int .i64 m.a.den, .int .i64 m.b.re, .int .i64 m.b.im, .int .i64 m.b.den, .int .i64 m.c.re, .int .i64 m.c.im, .int .i64 m.c.den, .int .i64 m.d.re, .int .i64 m.d.im, .int .i64 m.d.den] 28)) (w.heap.size + 1) (by simp)
    rwa [World.size_alloc] at this
  have hB0 : Below w.heap.size w ((w.alloc (.cells #[.int .i64 m.a.re, .int .i64 m.a.im, .int .i64 m.a.den, .int .i64 m.b.re, .int .i64 m.b.im, .int .i64 m.b.den, .int .i64 m.c.re, .int .i64 m.c.im, .int .i64 m.c.den, .int .i64 m.d.re, .int .i64 m.d.im, .int .i64 m.d.den] 28)).alloc (.cells #[] 25)) := by exact below_
  have hM0 : Blk ((w.alloc (.cells #[.int .i64 m.a.re, .int .i64 m.a.im, .int .i64 m.a.den, .int .i64 m.b.re, .int .i64 m.b.im, .int .i64 m.b.den, .int .i64 m.c.re, .int .i64 m.c.im, .int .i64 m.c.den, .int .i64 m.d.re, .int .i64 m.d.im, .int .i64 m.d.den] 28)).alloc (.cells #[] 25)) w.heap.size (mtc m) 28 := (Below.heap_alloc _ _ _ (by simp)).trans (heap_alloc_last w _)
  by_cases h16 : 16 < len
  · have hd : decide ((16 : Int) < (len : Int)) = true := by simp; omega
    have he : readM xs m = none := by
      unfold readM
      rw [if_neg]
      have := HL.out
      simp only [Bool.and_eq_true, decide_eq_true_eq]
      omega
    rw [he]
    clear he
    go_enter Tryz.func7, Tryz.ntmps7
    go_wp2
    go_ret2
    exact ⟨⟨_, rfl, hO0.mono (by omega)⟩, hB0⟩
  have h17 : (len : Int) ≤ 16 := by omega
  cases hmr : mreal m
  · have he : readM xs m = none := by unfold readM; rw [hmr]; simp
    rw [he]
    have HMR := Lib.hid hmr
    clear he hmr
    go_enter Tryz.func7, Tryz.ntmps7
    go_wp2_with (go_at_call 19; (with_reducible refine (stokes_any m _).mono ?_); rw [HMR.out]; rintro e w1 ⟨rfl, hb⟩; have hO1 := hO0.below hb; have hB1 : Below w.heap.size w w1 := bstep hB0 hb hB0.size; clear hb)
    go_ret2
    exact ⟨⟨_, rfl, hO1.mono (by omega)⟩, hB1⟩
  have HMR := Lib.hid hmr
  clear hmr
  go_enter Tryz.func7, Tryz.ntmps7
  go_wp2_with (go_at_call 19; (with_reducible refine (stokes_any m _).mono ?_); rw [HMR.out]; rintro e w1 ⟨rfl, hb⟩; have hO1 := hO0.below hb; have hB1 : Below w.heap.size w w1 := bstep hB0 hb hB0.size; have hM1 : Blk w1 w.heap.size (mtc m) 28 := (hb.block _ (blk_lt hM0)).trans hM0; clear hb)
  clear hO0 hB0 hM0
  go_loopw [6, 25] (fun v iv wr => ∃ k : Nat, k ≤ len ∧ iv = .int .i64 k ∧ OwF (w.heap.size + 1) v ((xs.take k).map (rdG m)) wr ∧ Hid ((xs.take k).all (rdOk m) = true) ∧ Blk wr w.heap.size (mtc m) 28 ∧ Below w.heap.size w wr) (fun _ iv _ => len - (intOf iv).toNat)
  case atStart => exact ⟨0, Nat.zero_le _, rfl, (by simpa using hO1), rfl, hM1, hB1⟩
  case round =>
    clear hO1 hB1 hM1
    obtain ⟨k, hk, rfl, hOw, hall, hM, hB⟩ := hrel
    have hz := hB.size
    by_cases hkl : k < len
    · obtain ⟨b1, o1, s, rfl, hlt1, hs1, c0, c1⟩ := hS.at hB hkl
      have hki : (k : Int) < (len : Int) := by omega
      obtain ⟨q, ok, hq, hok, hrow⟩ := row_parts s
      have HC := Lib.hid hq
      have HOK := Lib.hid hok
      have HROW := Lib.hid hrow
      have HS1 := Lib.hid hs1
      have hBc : Below w.heap.size w (wr.alloc (.cells #[.int .i64 s.p, .int .i64 s.q] 40)) := by exact below_
      have hzc : w.heap.size ≤ (wr.alloc (.cells #[.int .i64 s.p, .int .i64 s.q] 40)).heap.size := hBc.size
      have hRc : OwF (w.heap.size + 1) _ _ (wr.alloc (.cells #[.int .i64 s.p, .int .i64 s.q] 40)) := hOw.below ((Below.refl _ _).alloc (Nat.le_refl _) _)
      have hMc : Blk (wr.alloc (.cells #[.int .i64 s.p, .int .i64 s.q] 40)) w.heap.size (mtc m) 28 := (Below.heap_alloc _ _ _ (blk_lt hM)).trans hM
      clear hq hok hrow hs1
      go_upto_region 8 with (go_at_call 25; (with_reducible refine (row_m s q ok _ (hO.below hBc) (hZ.below hBc) (hT.below hBc) HC).mono ?_); rintro e w1 ⟨rfl, hb⟩)
      obtain ⟨bq, hbq2⟩ : ∃ b, b = w1.heap.size := ⟨_, rfl⟩
      obtain ⟨W1, hW1, hR1, hB1, hq1, hm1⟩ : ∃ W, W = w1.alloc (.cells #[.int .i64 q.a.re, .int .i64 q.a.im, .int .i64 q.a.den, .int .i64 q.b.re, .int .i64 q.b.im, .int .i64 q.b.den, .int .i64 q.c.re, .int .i64 q.c.im, .int .i64 q.c.den, .int .i64 q.d.re, .int .i64 q.d.im, .int .i64 q.d.den] 26) ∧ OwF (w.heap.size + 1) _ _ W ∧ Below w.heap.size w W ∧ Blk W bq (mtc q) 26 ∧ Blk W w.heap.size (mtc m) 28 := by
        have h9 : Below w.heap.size w w1 := bstep hBc hb hzc
        refine ⟨_, rfl, (hRc.below hb).below ((Below.refl _ _).alloc (Nat.le_refl _) _), h9.alloc h9.size _, ?_, (Below.heap_alloc _ _ _ (by have := hb.size; have := blk_lt hMc; omega)).trans ((hb.block _ (blk_lt hMc)).trans hMc)⟩
        rw [hbq2]; exact heap_alloc_last w1 _
      rw [← hW1, ← hbq2]
      clear hW1 hbq2 hb hOw hB hRc hBc hzc hMc hM c0 c1
      have hs2 : SumIs (W1.alloc (.cells #[.bool false] 64)) W1.heap.size false := SumIs.new' rfl
      go_upto_region 9 with (go_at_call 26; (with_reducible refine (x_need ok W1.heap.size _ (SumEx.of hs2)).mono ?_); rintro e w2 ⟨rfl, hu, hx⟩)
      have hs3 := hu _ hs2
      have hx2 : Below W1.heap.size W1 w2 := ((BelX.of ((Below.refl W1.heap.size W1).alloc (Nat.le_refl _) _)).trans (hx.mono (by simp))).below (Nat.le_refl _)
      have hR2 := hR1.below hx2
      have hB2 : Below w.heap.size w w2 := bstep hB1 hx2 hB1.size
      have hq2 := (hx2.block _ (blk_lt hq1)).trans hq1
      have hm2 := (hx2.block _ (blk_lt hm1)).trans hm1
      have hlm := blk_lt hm1
      have hzs := hB1.size
      clear hs2 hu hx hB1 hq1 hm1
      cases hok : ok
      · have hb2 : rdOk m s = false := by unfold rdOk; rw [← HOK.out, hok]; rfl
        have he : readM xs m = none := by
          unfold readM
          rw [allR_fails HS1.out hb2]
          simp
        have HE := Lib.hid he
        clear he hb2
        have hO9 := OwF.made w2 w.heap.size hB2.size
        have hB9 := hB2.alloc hB2.size (.cells #[] 25)
        go_wp2
        go_ret2
        exact ⟨⟨_, by rw [HE.out]; rfl, by rw [HE.out]; exact hO9⟩, hB9⟩
      · have hrk : rowOk s = true := by rw [← HOK.out, hok]
        have hg : rowG s = row4 q := HROW.out hok
        obtain ⟨F, bd, hF⟩ : ∃ F bd, rdI (row4 q) m = (F, bd) := ⟨_, _, rfl⟩
        have HF := Lib.hid hF
        have hbd : (rdI (rowG s) m).2 = bd := by rw [hg, hF]
        have hval : bd = false → rdG m s = F := fun _ => by unfold rdG; rw [hg, hF]
        have hrd : rdOk m s = !bd := by unfold rdOk; rw [hrk, hbd]; rfl
        have HRD := Lib.hid hrd
        have HVAL := Lib.hid hval
        have HNX := Lib.hid (rdG_next (m := m) HS1.out)
        have hml : ((xs.take k).map (rdG m)).length < 4000000 := by rw [List.length_map, List.length_take]; omega
        clear hF hbd hval hrd hg hrk
        obtain ⟨y0, y1, y2, y3, y4, y5, y6, y7, y8, y9, y10, y11⟩ := blk_m hq2
        obtain ⟨z0, z1, z2, z3, z4, z5, z6, z7, z8, z9, z10, z11⟩ := blk_m hm2
        have hs3' : SumIs w2 W1.heap.size false := hs3.sub (by rw [hok]; rfl)
        clear hs3
        go_upto_region 12 with (go_at_call 27; (with_reducible refine (x_read_m q m F bd W1.heap.size false _ hs3' HF).mono ?_); rintro e w4 ⟨rfl, hs4, hx⟩)
        have hls := hs3'.lt
        have hx4 : Below W1.heap.size W1 w4 := hx2.trans ((hx.mono (Nat.le_of_lt hls)).below (Nat.le_refl _))
        have hR4 := hR1.below hx4
        have hB4 : Below w.heap.size w w4 := hB2.trans (((hx.mono (Nat.le_of_lt hls)).below (Nat.le_refl _)).mono hzs)
        have hm4 := (hx.block _ (by omega) (by omega)).trans hm2
        clear hs3' hx hx4 hR1 hR2 hB2 hm2 hq2 hx2 y0 z0 y1 z1 y2 z2 y3 z3 y4 z4 y5 z5 y6 z6 y7 z7 y8 z8 y9 z9 y10 z10 y11 z11
        obtain ⟨bF, hbF⟩ : ∃ b, b = w4.heap.size := ⟨_, rfl⟩
        obtain ⟨W5, hW5, hR5, hB5, hm5, hs5, hF5⟩ : ∃ W, W = w4.alloc (.cells #[.int .i64 F.re, .int .i64 F.im, .int .i64 F.den] 25) ∧ OwF (w.heap.size + 1) _ _ W ∧ Below w.heap.size w W ∧ Blk W w.heap.size (mtc m) 28 ∧ SumIs W W1.heap.size (false || bd) ∧ Blk W bF (frc F) 25 := by
          refine ⟨_, rfl, hR4.below ((Below.refl _ _).alloc (Nat.le_refl _) _), hB4.alloc hB4.size _, (Below.heap_alloc _ _ _ (blk_lt hm4)).trans hm4, hs4.alloc _, ?_⟩
          rw [hbF]; exact heap_alloc_last w4 _
        rw [← hW5, ← hbF]
        clear hW5 hbF hR4 hB4 hm4 hs4
        have hcs := hs5.cell
        clear hs5
        obtain ⟨f0, f1, f2⟩ := blk_fr0 hF5
        cases hbd : bd
        · rw [hbd] at hcs
          go_wp2_with (at_builtin; refine append_fr rfl (.tmp 51) (.tmp 53) rfl (w.heap.size + 1) _ _ _ (by rfl) hR5 F (by rfl) hml (by have := blk_lt hm5; omega) ?_; intro v2 w6 hO6 hg6; refine Hid.out ?_)
          refine Lib.hid ?_
          have hB6 : Below w.heap.size w w6 := below_ownF hB5 hR5 (by omega) hg6
          have hm6 : Blk w6 w.heap.size (mtc m) 28 := (hg6.block _ (blk_lt hm5) (fun e => by have := (hR5.lt _ e.symm).1; omega)).trans hm5
          clear hg6 hR5 hB5 hm5 f0 f1 f2
          go_wp2
          go_roundw
          case rel => exact ⟨k + 1, by omega, by go_num, by rw [HNX.out, HVAL.out hbd]; exact hO6, by rw [Hid, allR_succ HS1.out, hall.out, HRD.out, hbd]; rfl, hm6, hB6⟩
          case measure => simp [intOf]; omega
        · rw [hbd] at hcs
          have hb2 : rdOk m s = false := by rw [HRD.out, hbd]; rfl
          have he : readM xs m = none := by
            unfold readM
            rw [allR_fails HS1.out hb2]
            simp
          have HE := Lib.hid he
          clear he hb2
          have hO9 := OwF.made W5 w.heap.size hB5.size
          have hB9 := hB5.alloc hB5.size (.cells #[] 25)
          go_wp2
          go_ret2
          exact ⟨⟨_, by rw [HE.out]; rfl, by rw [HE.out]; exact hO9⟩, hB9⟩
    · obtain rfl : k = len := by omega
      have hreal : xs.all (rdOk m) = true := by
        have := hall.out
        rwa [List.take_of_length_le (by have := HL.out; omega)] at this
      rw [List.take_of_length_le (by have := HL.out; omega)] at hOw
      have he : readM xs m = some (xs.map (rdG m)) := by
        unfold readM
        rw [if_pos]
        have := HL.out
        simp only [hreal, HMR.out, Bool.and_true, decide_eq_true_eq]
        omega
      have HE := Lib.hid he
      clear he hreal hall
      go_wp2
      go_ret2
      exact ⟨⟨_, by rw [HE.out]; rfl, by rw [HE.out]; exact hOw.mono (by omega)⟩, hB⟩
set_option maxRecDepth 100000 in
set_option maxHeartbeats 16000000 in
theorem sread_any (A : Option Addr) (len cap : Nat) (xs : List Sta) (m : Mt) (w : World) (hS : Sas A len cap xs w) :
    Calls Tryz.prog 8 #[.slice A len cap, mtv m] w fun e w' => (∃ v, e = .returned (.tuple #[v, .bool (readM xs m).isSome]) ∧ OwF w.heap.size v ((readM xs m).getD []) w') ∧ Below w.heap.size w w' := by
  have hl := hS.2.1
  have hmx := hS.2.2.1
  have HL := Lib.hid hS.1
  have hO0 : OwF (w.heap.size + 1) (.slice (some ⟨w.heap.size + 1, 0, none⟩) 0 0) [] ((w.alloc (.cells #[.int .i64 m.a.re, .int .i64 m.a.im, .int .i64 m.a.den, .int .i64 m.b.re, .int .i64 m.b.im, .int .i64 m.b.den, .int .i64 m.c.re, .int .i64 m.c.im, .int .i64 m.c.den, .int .i64 m.d.re, .int .i64 m.d.im, .int .i64 m.d.den] 28)).alloc (.cells #[] 25)) := by
    have := OwF.made (w.alloc (.cells #[.int .i64 m.a.re, .int .i64 m.a.im, .int .i64 m.a.den, .int .i64 m.b.re, .int .i64 m.b.im, .int .i64 m.b.den, .int .i64 m.c.re, .int .i64 m.c.im, .int .i64 m.c.den, .int .i64 m.d.re, .int .i64 m.d.im, .int .i64 m.d.den] 28)) (w.heap.size + 1) (by simp)
    rwa [World.size_alloc] at this
  have hB0 : Below w.heap.size w ((w.alloc (.cells #[.int .i64 m.a.re, .int .i64 m.a.im, .int .i64 m.a.den, .int .i64 m.b.re, .int .i64 m.b.im, .int .i64 m.b.den, .int .i64 m.c.re, .int .i64 m.c.im, .int .i64 m.c.den, .int .i64 m.d.re, .int .i64 m.d.im, .int .i64 m.d.den] 28)).alloc (.cells #[] 25)) := by exact below_
  have hM0 : Blk ((w.alloc (.cells #[.int .i64 m.a.re, .int .i64 m.a.im, .int .i64 m.a.den, .int .i64 m.b.re, .int .i64 m.b.im, .int .i64 m.b.den, .int .i64 m.c.re, .int .i64 m.c.im, .int .i64 m.c.den, .int .i64 m.d.re, .int .i64 m.d.im, .int .i64 m.d.den] 28)).alloc (.cells #[] 25)) w.heap.size (mtc m) 28 := (Below.heap_alloc _ _ _ (by simp)).trans (heap_alloc_last w _)
  by_cases h16 : 16 < len
  · have hd : decide ((16 : Int) < (len : Int)) = true := by simp; omega
    have he : readM xs m = none := by
      unfold readM
      rw [if_neg]
      have := HL.out
      simp only [Bool.and_eq_true, decide_eq_true_eq]
      omega
    rw [he]
    clear he
    go_enter Tryz.func8, Tryz.ntmps8
    go_wp2
    go_ret2
    exact ⟨⟨_, rfl, hO0.mono (by omega)⟩, hB0⟩
  have h17 : (len : Int) ≤ 16 := by omega
  cases hmr : mreal m
  · have he : readM xs m = none := by unfold readM; rw [hmr]; simp
    rw [he]
    have HMR := Lib.hid hmr
    clear he hmr
    go_enter Tryz.func8, Tryz.ntmps8
    go_wp2_with (go_at_call 28; (with_reducible refine (sstokes_any m _).mono ?_); rw [HMR.out]; rintro e w1 ⟨rfl, hb⟩; have hO1 := hO0.below hb; have hB1 : Below w.heap.size w w1 := bstep hB0 hb hB0.size; clear hb)
    go_ret2
    exact ⟨⟨_, rfl, hO1.mono (by omega)⟩, hB1⟩
  have HMR := Lib.hid hmr
  clear hmr
  go_enter Tryz.func8, Tryz.ntmps8
  go_wp2_with (go_at_call 28; (with_reducible refine (sstokes_any m _).mono ?_); rw [HMR.out]; rintro e w1 ⟨rfl, hb⟩; have hO1 := hO0.below hb; have hB1 : Below w.heap.size w w1 := bstep hB0 hb hB0.size; have hM1 : Blk w1 w.heap.size (mtc m) 28 := (hb.block _ (blk_lt hM0)).trans hM0; clear hb)
  clear hO0 hB0 hM0
  go_loopw [6, 7] (fun v iv wr => ∃ k : Nat, k ≤ len ∧ iv = .int .i64 k ∧ OwF (w.heap.size + 1) v ((xs.take k).map (rdG m)) wr ∧ Hid ((xs.take k).all (rdOk m) = true) ∧ Blk wr w.heap.size (mtc m) 28 ∧ Below w.heap.size w wr) (fun _ iv _ => len - (intOf iv).toNat)
  case atStart => exact ⟨0, Nat.zero_le _, rfl, (by simpa using hO1), rfl, hM1, hB1⟩
  case round =>
    clear hO1 hB1 hM1
    obtain ⟨k, hk, rfl, hOw, hall, hM, hB⟩ := hrel
    have hz := hB.size
    by_cases hkl : k < len
    · obtain ⟨b1, o1, s, rfl, hlt1, hs1, c0, c1⟩ := hS.at hB hkl
      have hki : (k : Int) < (len : Int) := by omega
      obtain ⟨q, ok, hq, hok, hrow⟩ := row_parts s
      have HC := Lib.hid hq
      have HOK := Lib.hid hok
      have HROW := Lib.hid hrow
      have HS1 := Lib.hid hs1
      have hBc : Below w.heap.size w wr := by exact below_
      have hzc : w.heap.size ≤ wr.heap.size := hBc.size
      have hRc : OwF (w.heap.size + 1) _ _ wr := hOw
      have hMc : Blk wr w.heap.size (mtc m) 28 := hM
      clear hq hok hrow hs1
      go_upto_region 8 with (go_at_call 29; (with_reducible refine (srow_m s q ok _ HC).mono ?_); rintro e w1 ⟨rfl, hb⟩)
      obtain ⟨bq, hbq2⟩ : ∃ b, b = w1.heap.size := ⟨_, rfl⟩
      obtain ⟨W1, hW1, hR1, hB1, hq1, hm1⟩ : ∃ W, W = w1.alloc (.cells #[.int .i64 q.a.re, .int .i64 q.a.im, .int .i64 q.a.den, .int .i64 q.b.re, .int .i64 q.b.im, .int .i64 q.b.den, .int .i64 q.c.re, .int .i64 q.c.im, .int .i64 q.c.den, .int .i64 q.d.re, .int .i64 q.d.im, .int .i64 q.d.den] 26) ∧ OwF (w.heap.size + 1) _ _ W ∧ Below w.heap.size w W ∧ Blk W bq (mtc q) 26 ∧ Blk W w.heap.size (mtc m) 28 := by
        have h9 : Below w.heap.size w w1 := bstep hBc hb hzc
        refine ⟨_, rfl, (hRc.below hb).below ((Below.refl _ _).alloc (Nat.le_refl _) _), h9.alloc h9.size _, ?_, (Below.heap_alloc _ _ _ (by have := hb.size; have := blk_lt hMc; omega)).trans ((hb.block _ (blk_lt hMc)).trans hMc)⟩
        rw [hbq2]; exact heap_alloc_last w1 _
      rw [← hW1, ← hbq2]
      clear hW1 hbq2 hb hOw hB hRc hBc hzc hMc hM c0 c1
      have hR2 := hR1
      have hB2 := hB1
      have hq2 := hq1
      have hm2 := hm1
      clear hR1 hB1 hq1 hm1
      cases hok : ok
      · have hb2 : rdOk m s = false := by unfold rdOk; rw [← HOK.out, hok]; rfl
        have he : readM xs m = none := by
          unfold readM
          rw [allR_fails HS1.out hb2]
          simp
        have HE := Lib.hid he
        clear he hb2
        have hO9 := OwF.made W1 w.heap.size hB2.size
        have hB9 := hB2.alloc hB2.size (.cells #[] 25)
        go_wp2
        go_ret2
        exact ⟨⟨_, by rw [HE.out]; rfl, by rw [HE.out]; exact hO9⟩, hB9⟩
      · have hrk : rowOk s = true := by rw [← HOK.out, hok]
        have hg : rowG s = row4 q := HROW.out hok
        obtain ⟨F, bd, hF⟩ : ∃ F bd, rdS (row4 q) m = (F, bd) := ⟨_, _, rfl⟩
        have HF := Lib.hid hF
        have hbth := rd_both HMR.out hrk
        rw [hg, hF] at hbth
        simp only at hbth
        have hbd : (rdI (rowG s) m).2 = bd := by rw [hg]; exact hbth.1.symm
        have hval : bd = false → rdG m s = F := fun h => by unfold rdG; rw [hg]; exact (hbth.2 (hbth.1.symm.trans h)).symm
        have hrd : rdOk m s = !bd := by unfold rdOk; rw [hrk, hbd]; rfl
        have HRD := Lib.hid hrd
        have HVAL := Lib.hid hval
        have HNX := Lib.hid (rdG_next (m := m) HS1.out)
        have hml : ((xs.take k).map (rdG m)).length < 4000000 := by rw [List.length_map, List.length_take]; omega
        clear hF hbd hval hrd hg hrk hbth
        have hs3 : OkIs (W1.alloc (.cells #[.bool true] 69)) W1.heap.size false := OkIs.new W1 false
        have hlq := blk_lt hq2
        have hlm := blk_lt hm2
        have hzs := hB2.size
        have hq3 : MtAt (W1.alloc (.cells #[.bool true] 69)) bq q := blk_m ((Below.heap_alloc _ _ _ hlq).trans hq2)
        have hm3 : MtAt (W1.alloc (.cells #[.bool true] 69)) w.heap.size m := blk_m ((Below.heap_alloc _ _ _ hlm).trans hm2)
        obtain ⟨y0, y1, y2, y3, y4, y5, y6, y7, y8, y9, y10, y11⟩ := hq3
        obtain ⟨z0, z1, z2, z3, z4, z5, z6, z7, z8, z9, z10, z11⟩ := hm3
        go_upto_region 12 with (go_at_call 30; (with_reducible refine (y_read_m q m F bd W1.heap.size false _ hs3 HF).mono ?_); rintro e w4 ⟨rfl, hs4, hx⟩)
        have hx4 : Below W1.heap.size W1 w4 := ((BelX.of ((Below.refl W1.heap.size W1).alloc (Nat.le_refl _) _)).trans (hx.mono (by simp))).below (Nat.le_refl _)
        have hR4 := hR2.below hx4
        have hB4 : Below w.heap.size w w4 := bstep hB2 hx4 hB2.size
        have hm4 := (hx4.block _ hlm).trans hm2
        clear hs3 hx hx4 hR2 hB2 hm2 hq2 y0 z0 y1 z1 y2 z2 y3 z3 y4 z4 y5 z5 y6 z6 y7 z7 y8 z8 y9 z9 y10 z10 y11 z11
        obtain ⟨bF, hbF⟩ : ∃ b, b = w4.heap.size := ⟨_, rfl⟩
        obtain ⟨W5, hW5, hR5, hB5, hm5, hs5, hF5⟩ : ∃ W, W = w4.alloc (.cells #[.int .i64 F.re, .int .i64 F.im, .int .i64 F.den] 25) ∧ OwF (w.heap.size + 1) _ _ W ∧ Below w.heap.size w W ∧ Blk W w.heap.size (mtc m) 28 ∧ OkIs W W1.heap.size (false || bd) ∧ Blk W bF (frc F) 25 := by
          refine ⟨_, rfl, hR4.below ((Below.refl _ _).alloc (Nat.le_refl _) _), hB4.alloc hB4.size _, (Below.heap_alloc _ _ _ (blk_lt hm4)).trans hm4, hs4.alloc _, ?_⟩
          rw [hbF]; exact heap_alloc_last w4 _
        rw [← hW5, ← hbF]
        clear hW5 hbF hR4 hB4 hm4 hs4
        have hcs := hs5.cell
        clear hs5
        obtain ⟨f0, f1, f2⟩ := blk_fr0 hF5
        cases hbd : bd
        · rw [hbd] at hcs
          go_wp2_with (at_builtin; refine append_fr rfl (.tmp 52) (.tmp 54) rfl (w.heap.size + 1) _ _ _ (by rfl) hR5 F (by rfl) hml (by have := blk_lt hm5; omega) ?_; intro v2 w6 hO6 hg6; refine Hid.out ?_)
          refine Lib.hid ?_
          have hB6 : Below w.heap.size w w6 := below_ownF hB5 hR5 (by omega) hg6
          have hm6 : Blk w6 w.heap.size (mtc m) 28 := (hg6.block _ (blk_lt hm5) (fun e => by have := (hR5.lt _ e.symm).1; omega)).trans hm5
          clear hg6 hR5 hB5 hm5 f0 f1 f2
          go_wp2
          go_roundw
          case rel => exact ⟨k + 1, by omega, by go_num, by rw [HNX.out, HVAL.out hbd]; exact hO6, by rw [Hid, allR_succ HS1.out, hall.out, HRD.out, hbd]; rfl, hm6, hB6⟩
          case measure => simp [intOf]; omega
        · rw [hbd] at hcs
          have hb2 : rdOk m s = false := by rw [HRD.out, hbd]; rfl
          have he : readM xs m = none := by
            unfold readM
            rw [allR_fails HS1.out hb2]
            simp
          have HE := Lib.hid he
          clear he hb2
          have hO9 := OwF.made W5 w.heap.size hB5.size
          have hB9 := hB5.alloc hB5.size (.cells #[] 25)
          go_wp2
          go_ret2
          exact ⟨⟨_, by rw [HE.out]; rfl, by rw [HE.out]; exact hO9⟩, hB9⟩
    · obtain rfl : k = len := by omega
      have hreal : xs.all (rdOk m) = true := by
        have := hall.out
        rwa [List.take_of_length_le (by have := HL.out; omega)] at this
      rw [List.take_of_length_le (by have := HL.out; omega)] at hOw
      have he : readM xs m = some (xs.map (rdG m)) := by
        unfold readM
        rw [if_pos]
        have := HL.out
        simp only [hreal, HMR.out, Bool.and_true, decide_eq_true_eq]
        omega
      have HE := Lib.hid he
      clear he hreal hall
      go_wp2
      go_ret2
      exact ⟨⟨_, by rw [HE.out]; rfl, by rw [HE.out]; exact hOw.mono (by omega)⟩, hB⟩
end Go.Proofs.YtodhbkinbcemnaaGreatDoor
