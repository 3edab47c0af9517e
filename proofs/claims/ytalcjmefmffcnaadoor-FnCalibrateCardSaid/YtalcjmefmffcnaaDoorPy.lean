/-
  Texts of this claim, joined: Yh; CnI. Nothing is claimed here; the other texts of this claim use it.
-/
import Derived.Test.YtalcjmefmffcnaaDoorYg
import Derived.Test.YtalcjmefmffcnaaDoorTy
import Derived.Test.YtalcjmefmffcnaaDoorEq
import Derived.Test.YtalcjmefmffcnaaDoorPg
import Derived.Test.YtalcjmefmffcnaaDoorFd
import Derived.Test.YtalcjmefmffcnaaDoorCards
import Derived.Test.YtalcjmefmffcnaaDoorTie
import Derived.SevenTiedAt
namespace Go.Proofs.YtalcjmefmffcnaaDoor
set_option linter.unusedSimpArgs false
set_option linter.unusedVariables false
section
open Go.RowKit
attribute [local go_sem ↓] Go.wp_at_zero Go.wp_at_succ
theorem eqA_runc (m : Mt) (w : World) : (Op.equalIn 10000 26 (mtv m) (mtv m)).run Tryd.prog w = .ok true w := by
  obtain ⟨i, hi⟩ : ∃ i, Tryd.prog.info? 25 = some i := Option.isSome_iff_exists.1 (by kernel_rfl)
  rw [show (10000 : Nat) = 9999 + 1 from rfl, run_equalIn_array w 9999 _ _ Tryd.underlying26 hi]
  obtain ⟨p0, p1, p2, p3⟩ := part_f m w
  have e : ∀ a : Fr, (Op.equalIn 9999 25 (frv a) (frv a)).run Tryd.prog w = .ok true w := fun a => eqF_run 9997 a w
  simp only [show List.range 4 = [0, 1, 2, 3] from rfl, show Tryd.prog.cellsOf 25 = 3 by kernel_rfl, Op.eqItems, Sem.run_bind, Nat.zero_mul, Nat.one_mul, show 2 * 3 = 6 from rfl, show 3 * 3 = 9 from rfl, p0, p1, p2, p3, e, Result.andThen_ok, Bool.not_true, Bool.false_eq_true, if_false, Sem.run_pure]
theorem eqF_runc (a : Fr) (w : World) : (Op.equalIn 10000 25 (frv a) (frv a)).run Tryd.prog w = .ok true w := eqF_run 9998 a w
theorem ti_c (a b mv : Fr) (mo : Bool) (w : World) (h1 : Hid (vN (timesI a b) = mv)) (h2 : Hid ((timesI a b).isSome = mo)) : Calls Tryd.prog 19 #[frv a, frv b] w fun e w' => e = .returned (.tuple #[frv mv, .bool mo]) ∧ Below w.heap.size w w' := by
  rw [← h1.out, ← h2.out]; exact times_any a b w
theorem ai_c (a b mv : Fr) (mo : Bool) (w : World) (h1 : Hid (vN (addI a b) = mv)) (h2 : Hid ((addI a b).isSome = mo)) : Calls Tryd.prog 20 #[frv a, frv b] w fun e w' => e = .returned (.tuple #[frv mv, .bool mo]) ∧ Below w.heap.size w w' := by
  rw [← h1.out, ← h2.out]; exact add_any a b w
theorem cal_c (A : Option Addr) (len cap : Nat) (ks : List Mt) (A2 : Option Addr) (len2 cap2 : Nat) (rs : List Fr) (q : Mt) (ok : Bool) (w : World) (hS : Sts A len cap ks w) (hF : Frs A2 len2 cap2 rs w) (hbig : len ≤ 1048576) (hG : GZ w) (e : Hid (arrV (calI ks rs) = .tuple #[mtv q, .bool ok])) :
    Calls Tryd.prog 22 #[.slice A len cap, .slice A2 len2 cap2] w fun e w' => e = .returned (.tuple #[mtv q, .bool ok]) ∧ Below w.heap.size w w' := by
  rw [← e.out]; exact cal_any A len cap ks A2 len2 cap2 rs w hS hF hbig hG
theorem scal_c (A : Option Addr) (len cap : Nat) (ks : List Mt) (A2 : Option Addr) (len2 cap2 : Nat) (rs : List Fr) (q : Mt) (ok : Bool) (w : World) (hS : Sts A len cap ks w) (hF : Frs A2 len2 cap2 rs w) (hbig : len ≤ 1048576) (e : Hid (arrV (calI ks rs) = .tuple #[mtv q, .bool ok])) :
    Calls Tryd.prog 23 #[.slice A len cap, .slice A2 len2 cap2] w fun e w' => e = .returned (.tuple #[mtv q, .bool ok]) ∧ Below w.heap.size w w' := by
  rw [← e.out, cal_eq]; exact scal_any A len cap ks A2 len2 cap2 rs w hS hF hbig
theorem arrV_some {o : Option (List Fr)} {q : Mt} (h : arrV o = .tuple #[mtv q, .bool true]) : o = some (row4 q) := by
  match o, h with
  | none, h => simp [arrV] at h
  | some [], h => simp [arrV] at h
  | some [_], h => simp [arrV] at h
  | some [_, _], h => simp [arrV] at h
  | some [_, _, _], h => simp [arrV] at h
  | some [⟨a0, a1, a2⟩, ⟨b0, b1, b2⟩, ⟨c0, c1, c2⟩, ⟨d0, d1, d2⟩], h =>
    obtain ⟨⟨e0, e1, e2⟩, ⟨f0, f1, f2⟩, ⟨g0, g1, g2⟩, ⟨h0, h1, h2⟩⟩ := q
    simp [arrV] at h
    simp [row4, h]
  | some (_ :: _ :: _ :: _ :: _ :: _), h => simp [arrV] at h
/-- What the rounds keep. -/
structure RTc (w : World) (bo bs : Nat) (q : Mt) (acc : Fr) (W : World) : Prop where
  B : Below w.heap.size w W
  o : Blk W bo (mtc q) 26
  s : Blk W bs (frc acc) 25
  l : w.heap.size ≤ bo ∧ bo < bs
section
variable {w W W' : World} {bo bs : Nat} {q : Mt} {acc : Fr}
theorem RTc.below (h : RTc w bo bs q acc W) (hb : Below W.heap.size W W') : RTc w bo bs q acc W' := ⟨bstep h.B hb h.B.size, (hb.block _ (blk_lt h.o)).trans h.o, (hb.block _ (blk_lt h.s)).trans h.s, h.l⟩
theorem RTc.put (h : RTc w bo bs q acc W) (v : Fr) : RTc w bo bs q v (((W.setCell ⟨bs, 0, none⟩ (.int .i64 v.re)).setCell ⟨bs, 1, none⟩ (.int .i64 v.im)).setCell ⟨bs, 2, none⟩ (.int .i64 v.den)) := by
  have hl := h.l
  exact ⟨((h.B.setCell (by show w.heap.size ≤ bs; omega) _).setCell (by show w.heap.size ≤ bs; omega) _).setCell (by show w.heap.size ≤ bs; omega) _, (Below.heap_setCell _ _ _ bo (by show bo ≠ bs; omega)).trans ((Below.heap_setCell _ _ _ bo (by show bo ≠ bs; omega)).trans ((Below.heap_setCell _ _ _ bo (by show bo ≠ bs; omega)).trans h.o)), blk_put (xs := [acc]) h.s (i := 0) (show 0 < 1 by decide) v, h.l⟩
end
theorem StAt.jth {W : World} {b o : Nat} {m : Mt} (h : StAt W b o m) (j : Nat) (hj : j < 4) : FAt W b (o + j * 3) (mrow m j) := by
  match j, hj with
  | 0, _ => exact h.1
  | 1, _ => exact h.2.1
  | 2, _ => exact h.2.2.1
  | 3, _ => exact h.2.2.2
theorem dot_next (r c : Nat → Fr) (k : Nat) : dotS r c (k + 1) = (vN (addI (dotS r c k).1 (vN (timesI (r k) (c k)))), ((dotS r c k).2 || (timesI (r k) (c k)).isNone) || (addI (dotS r c k).1 (vN (timesI (r k) (c k)))).isNone) := rfl
theorem ns_ofc {o : Option Fr} {b : Bool} (h : o.isSome = b) : o.isNone = !b := nn_of h
section
attribute [local go_sem] eqA_runc eqF_runc
set_option maxRecDepth 100000 in
set_option maxHeartbeats 8000000 in
theorem fnCalibrate_walk (A : Option Addr) (len cap : Nat) (w : World) (hby : Bytes A len cap w) (hGZ : GZ w) :
    Calls Tryd.prog 5 #[.slice A len cap] w fun e w' => e = .returned (.bool true) ∧ Below w.heap.size w w' := by
  have hcap := hby.2.1
  have hlc := hby.1
  by_cases hbig : 1048576 < len
  · have hd : decide ((1048576 : Int) < (len : Int)) = true := by simp; omega
    go_enter Tryd.func5, Tryd.ntmps5
    go_wp2
    go_ret
    exact ⟨rfl, by exact below_⟩
  have hd : decide ((1048576 : Int) < (len : Int)) = false := by simp; omega
  go_enter Tryd.func5, Tryd.ntmps5
  go_upto_region 4 with (go_at_call 21; (with_reducible refine (drawMeterCalibrate_any A len cap _ hby).mono ?_); rintro e V ⟨ks, rs, v, u, rfl, ⟨hOS, hkl, hOF, hrl⟩, hBV⟩)
  obtain ⟨A1, c1, rfl, hS⟩ := hOS.sts
  obtain ⟨A2, c2, rfl, hF⟩ := hOF.frs
  obtain ⟨q, ok, hq⟩ := arrV_form (calI ks rs)
  have HC := Lib.hid hq
  have hkb : ks.length ≤ 1048576 := by omega
  clear hq hOS hOF
  go_upto_region 5 with (go_at_call 22; (with_reducible refine (cal_c A1 _ c1 ks A2 _ c2 rs q ok _ hS hF hkb (hGZ.below hBV) HC).mono ?_); rintro e w2 ⟨rfl, hb⟩)
  have hB2 : Below V.heap.size V (w2.alloc (.cells (mtc q) 26)) := hb.alloc hb.size _
  have hbo : Blk (w2.alloc (.cells (mtc q) 26)) w2.heap.size (mtc q) 26 := heap_alloc_last w2 _
  have hz2 : V.heap.size ≤ w2.heap.size := hb.size
  obtain ⟨bo, hbo2⟩ : ∃ b, b = w2.heap.size := ⟨_, rfl⟩
  obtain ⟨W2, hW2, hW2'⟩ : ∃ W, W = w2.alloc (.cells (mtc q) 26) ∧ W = w2.alloc (.cells #[.int .i64 q.a.re, .int .i64 q.a.im, .int .i64 q.a.den, .int .i64 q.b.re, .int .i64 q.b.im, .int .i64 q.b.den, .int .i64 q.c.re, .int .i64 q.c.im, .int .i64 q.c.den, .int .i64 q.d.re, .int .i64 q.d.im, .int .i64 q.d.den] 26) := ⟨_, rfl, rfl⟩
  rw [← hW2] at hB2 hbo
  rw [← hbo2] at hbo hz2
  rw [← hW2', ← hbo2]
  clear hW2 hW2' hbo2 hb
  go_upto_region 6 with (go_at_call 23; (with_reducible refine (scal_c A1 _ c1 ks A2 _ c2 rs q ok _ (hS.below hB2) (hF.below hB2) hkb HC).mono ?_); rintro e w3 ⟨rfl, hb⟩)
  have hB3 : Below V.heap.size V (w3.alloc (.cells #[.int .i64 q.a.re, .int .i64 q.a.im, .int .i64 q.a.den, .int .i64 q.b.re, .int .i64 q.b.im, .int .i64 q.b.den, .int .i64 q.c.re, .int .i64 q.c.im, .int .i64 q.c.den, .int .i64 q.d.re, .int .i64 q.d.im, .int .i64 q.d.den] 26)) := by
    have h9 : Below V.heap.size V w3 := bstep hB2 hb hB2.size
    exact h9.alloc h9.size _
  have hM : MtAt (w3.alloc (.cells #[.int .i64 q.a.re, .int .i64 q.a.im, .int .i64 q.a.den, .int .i64 q.b.re, .int .i64 q.b.im, .int .i64 q.b.den, .int .i64 q.c.re, .int .i64 q.c.im, .int .i64 q.c.den, .int .i64 q.d.re, .int .i64 q.d.im, .int .i64 q.d.den] 26)) w3.heap.size q := MtAt.new w3 q 26
  have hbo3 : Blk (w3.alloc (.cells #[.int .i64 q.a.re, .int .i64 q.a.im, .int .i64 q.a.den, .int .i64 q.b.re, .int .i64 q.b.im, .int .i64 q.b.den, .int .i64 q.c.re, .int .i64 q.c.im, .int .i64 q.c.den, .int .i64 q.d.re, .int .i64 q.d.im, .int .i64 q.d.den] 26)) bo (mtc q) 26 := (Below.heap_alloc _ _ _ (by have := hb.size; have := blk_lt hbo; omega)).trans ((hb.block _ (blk_lt hbo)).trans hbo)
  obtain ⟨bw, hbw⟩ : ∃ b, b = w3.heap.size := ⟨_, rfl⟩
  obtain ⟨W3, hW3⟩ : ∃ W, W = w3.alloc (.cells #[.int .i64 q.a.re, .int .i64 q.a.im, .int .i64 q.a.den, .int .i64 q.b.re, .int .i64 q.b.im, .int .i64 q.b.den, .int .i64 q.c.re, .int .i64 q.c.im, .int .i64 q.c.den, .int .i64 q.d.re, .int .i64 q.d.im, .int .i64 q.d.den] 26) := ⟨_, rfl⟩
  rw [← hW3, ← hbw] at hM
  rw [← hW3] at hB3 hbo3
  rw [← hW3, ← hbw]
  clear hW3 hbw hb hB2 hbo
  have hN : MtAt W3 bo q := by
    have h := fun i (hi : i < 4) => blk_get (xs := row4 q) hbo3 (i := i) hi
    obtain ⟨a0, a1, a2⟩ := h 0 (by omega)
    obtain ⟨a3, a4, a5⟩ := h 1 (by omega)
    obtain ⟨a6, a7, a8⟩ := h 2 (by omega)
    obtain ⟨a9, a10, a11⟩ := h 3 (by omega)
    exact ⟨a0, a1, a2, a3, a4, a5, a6, a7, a8, a9, a10, a11⟩
  obtain ⟨n0, n1, n2, n3, n4, n5, n6, n7, n8, n9, n10, n11⟩ := hN
  obtain ⟨m0, m1, m2, m3, m4, m5, m6, m7, m8, m9, m10, m11⟩ := hM
  have hBw : Below w.heap.size w W3 := bstep hBV hB3 hBV.size
  cases hk : ok
  · clear hbo3
    go_wp2
    go_ret
    exact ⟨rfl, by exact below_⟩
  obtain ⟨hl4, hr4, -, hlaw⟩ := cal_law (arrV_some (hk ▸ HC.out))
  have HLAW := Lib.hid hlaw
  clear hlaw HC hk hkl hrl hkb
  rw [hl4] at hS
  rw [hr4] at hF
  go_upto_region 9 with fail
  clear n0 m0 n1 m1 n2 m2 n3 m3 n4 m4 n5 m5 n6 m6 n7 m7 n8 m8 n9 m9 n10 m10 n11 m11 hBw
  simp only [hl4, hr4]
  go_loopw [9, 10, 11, 12, 13, 14, 15, 16] (fun i _ _ _ _ _ _ _ wr => ∃ k : Nat, k ≤ 4 ∧ i = .int .i64 k ∧ Below V.heap.size V wr ∧ Blk wr bo (mtc q) 26) (fun i _ _ _ _ _ _ _ _ => 4 - (intOf i).toNat)
  case atStart => exact ⟨0, by omega, rfl, hB3, hbo3⟩
  case round =>
    clear hB3 hbo3
    rename World => wz
    obtain ⟨i, hi, rfl, hBz, hoz⟩ := hrel
    by_cases hi4 : i < 4
    · have hii : (i : Int) < 4 := by omega
      have hii0 : (0 : Int) ≤ (i : Int) := by omega
      obtain ⟨bk, ok1, m, rfl, hbk, hsk, -⟩ := hS.at hBz hi4
      obtain ⟨bf, of1, z, rfl, hbf, hsf, -⟩ := hF.at hBz hi4
      have hSt : ∀ W, Below V.heap.size V W → StAt W bk (ok1 + i * 12) m := fun W hW => by
        obtain ⟨b', o', m', e, -, hm', hat⟩ := hS.at hW hi4
        simp only [Option.some.injEq, Addr.mk.injEq, and_true] at e
        obtain ⟨rfl, rfl⟩ := e
        rw [hsk] at hm'
        obtain rfl := Option.some.inj hm'
        exact hat
      have hFt : ∀ W, Below V.heap.size V W → FAt W bf (of1 + i * 3) z := fun W hW => by
        obtain ⟨b', o', m', e, -, hm', hat⟩ := hF.at hW hi4
        simp only [Option.some.injEq, Addr.mk.injEq, and_true] at e
        obtain ⟨rfl, rfl⟩ := e
        rw [hsf] at hm'
        obtain rfl := Option.some.inj hm'
        exact hat
      have hsum : (dotS (mrow q) (mrow m) 4).2 = false → z = (dotS (mrow q) (mrow m) 4).1 := fun h => by
        have := HLAW.out i m hsk h
        rw [hsf] at this
        exact Option.some.inj this
      have HSUM := Lib.hid hsum
      have HST := Lib.hid hSt
      have HFT := Lib.hid hFt
      clear hsk hsf hSt hFt hsum
      go_upto_region 12 with fail
      obtain ⟨bs, hbs⟩ : ∃ b, b = wz.heap.size := ⟨_, rfl⟩
      obtain ⟨W4, hW4, hT⟩ : ∃ W, W = wz.alloc (.cells #[.int .i64 0, .int .i64 0, .int .i64 1] 25) ∧ RTc V bo bs q ⟨0, 0, 1⟩ W := by
        refine ⟨_, rfl, hBz.alloc hBz.size _, (Below.heap_alloc _ _ _ (blk_lt hoz)).trans hoz, ?_, ?_⟩
        · rw [hbs]; exact heap_alloc_last wz _
        · have := blk_lt hoz; omega
      rw [← hW4, ← hbs]
      clear hW4 hbs hBz hoz
      go_wp2
      go_loopw [11, 12, 13, 14, 15, 16] (fun t j _ _ _ _ wr => ∃ k : Nat, k ≤ 4 ∧ j = .int .i64 k ∧ t = .bool (!(dotS (mrow q) (mrow m) k).2) ∧ RTc V bo bs q (dotS (mrow q) (mrow m) k).1 wr) (fun _ j _ _ _ _ _ => 4 - (intOf j).toNat)
      case atStart => exact ⟨0, by omega, rfl, rfl, hT⟩
      case round =>
        clear hT
        rename World => wo
        obtain ⟨k, hk, rfl, rfl, hT⟩ := hrel
        obtain ⟨d, hd⟩ : ∃ x, x = dotS (mrow q) (mrow m) k := ⟨_, rfl⟩
        rw [← hd] at hT ⊢
        have HDD := Lib.hid hd
        clear hd
        by_cases hkl : k < 4
        · have hki : (k : Int) < 4 := by omega
          have hki0 : (0 : Int) ≤ (k : Int) := by omega
          obtain ⟨xv, hxv⟩ : ∃ x, vN (timesI (mrow q k) (mrow m k)) = x := ⟨_, rfl⟩
          obtain ⟨xo, hxo⟩ : ∃ x, (timesI (mrow q k) (mrow m k)).isSome = x := ⟨_, rfl⟩
          obtain ⟨av, hav⟩ : ∃ x, vN (addI d.1 xv) = x := ⟨_, rfl⟩
          obtain ⟨ao, hao⟩ : ∃ x, (addI d.1 xv).isSome = x := ⟨_, rfl⟩
          have hnx := dot_next (mrow q) (mrow m) k
          rw [← HDD.out, hxv, hav, ns_ofc hxo, ns_ofc hao] at hnx
          have HX := Lib.hid hxv
          have HO := Lib.hid hxo
          have HV := Lib.hid hav
          have HW := Lib.hid hao
          have HNX := Lib.hid hnx
          clear hxv hxo hav hao hnx
          obtain ⟨l1, l2⟩ := hT.l
          obtain ⟨a0, a1, a2⟩ := blk_get (xs := row4 q) hT.o (i := k) hkl
          obtain ⟨b0, b1, b2⟩ := (HST.out wo hT.B).jth k hkl
          go_upto_region 16 with fail
          go_cut [13, 14] from 66 to 79 (fun s13 s14 W => s14 = .bool xo ∧ ∃ bx : Nat, s13 = .pointer (some ⟨bx, 0, none⟩) ∧ wo.heap.size ≤ bx ∧ Blk W bx (frc xv) 25 ∧ RTc V bo bs q d.1 W)
          case first =>
            have lo := blk_lt hT.o
            have lk : bk < wo.heap.size := by have := hT.B.size; omega
            have hSx : ∀ W, Below wo.heap.size wo W → W.cell? ⟨bo, k * 3, none⟩ = some (.int .i64 (mrow q k).re) ∧ W.cell? ⟨bo, k * 3 + 1, none⟩ = some (.int .i64 (mrow q k).im) ∧ W.cell? ⟨bo, k * 3 + 2, none⟩ = some (.int .i64 (mrow q k).den) ∧ W.cell? ⟨bk, ok1 + i * 12 + k * 3, none⟩ = some (.int .i64 (mrow m k).re) ∧ W.cell? ⟨bk, ok1 + i * 12 + k * 3 + 1, none⟩ = some (.int .i64 (mrow m k).im) ∧ W.cell? ⟨bk, ok1 + i * 12 + k * 3 + 2, none⟩ = some (.int .i64 (mrow m k).den) := fun W h =>
              ⟨(h.cell (p := ⟨_, _, none⟩) lo).trans a0, (h.cell (p := ⟨_, _, none⟩) lo).trans a1, (h.cell (p := ⟨_, _, none⟩) lo).trans a2, (h.cell (p := ⟨_, _, none⟩) lk).trans b0, (h.cell (p := ⟨_, _, none⟩) lk).trans b1, (h.cell (p := ⟨_, _, none⟩) lk).trans b2⟩
            go_region_held3 (fun W => W.cell? ⟨bo, k * 3, none⟩ = some (.int .i64 (mrow q k).re) ∧ W.cell? ⟨bo, k * 3 + 1, none⟩ = some (.int .i64 (mrow q k).im) ∧ W.cell? ⟨bo, k * 3 + 2, none⟩ = some (.int .i64 (mrow q k).den) ∧ W.cell? ⟨bk, ok1 + i * 12 + k * 3, none⟩ = some (.int .i64 (mrow m k).re) ∧ W.cell? ⟨bk, ok1 + i * 12 + k * 3 + 1, none⟩ = some (.int .i64 (mrow m k).im) ∧ W.cell? ⟨bk, ok1 + i * 12 + k * 3 + 2, none⟩ = some (.int .i64 (mrow m k).den)) ((refine hSx _ ?_; exact below_)) (first | (go_at_call 19; (with_reducible refine (ti_c (mrow q k) (mrow m k) xv xo _ HX HO).mono ?_); rintro e w2 ⟨rfl, hb2⟩; have hB2 : Below wo.heap.size wo w2 := bstep (by exact below_) hb2 (by first | omega | (simp; done)); have hz2 := hB2.size; (first | (have hA2 : Blk w2 wo.heap.size (tbc [zK]) 25 := (hb2.block _ (by simp; done)).trans (heap_alloc_last _ _); obtain ⟨e0, e1, e2⟩ := blk_get hA2 (i := 0) (show 0 < 1 by decide); have e3 := blk_free hA2; simp only [Nat.zero_mul, Nat.zero_add] at e0 e1 e2) | skip); clear hb2))
            all_goals (try go_wp2)
            all_goals (go_meet; refine ⟨rfl, _, rfl, ?_, ?_, hT.below (show Below wo.heap.size wo _ by exact below_)⟩)
            all_goals first | omega | exact Nat.le_refl _ | exact heap_alloc_last _ _ | exact blk_put hA2 (i := 0) (show 0 < 1 by decide) xv
          clear hT a0 a1 a2 b0 b1 b2
          rename World => wx
          obtain ⟨q14, bx, q13, hbx, hX, hT⟩ := hcut
          subst q13 q14
          obtain ⟨x0, x1, x2⟩ := blk_fr0 hX
          obtain ⟨f0, f1, f2⟩ := blk_fr0 hT.s
          go_upto_region 18 with (first | (go_at_call 20; (with_reducible refine (ai_c d.1 xv av ao _ HV HW).mono ?_); rintro e w3 ⟨rfl, hb3⟩))
          obtain ⟨bn, hbn⟩ : ∃ b, b = w3.heap.size := ⟨_, rfl⟩
          obtain ⟨W5, hW5, hT5, hN5⟩ : ∃ W, W = w3.alloc (.cells #[.int .i64 av.re, .int .i64 av.im, .int .i64 av.den] 25) ∧ RTc V bo bs q d.1 W ∧ Blk W bn (frc av) 25 := by
            refine ⟨_, rfl, (hT.below hb3).below ((Below.refl _ _).alloc (Nat.le_refl _) _), ?_⟩
            rw [hbn]; exact heap_alloc_last w3 _
          rw [← hW5, ← hbn]
          clear hW5 hbn hb3 hT hX x0 x1 x2 f0 f1 f2 hbx
          go_cut [11] from 86 to 92 (fun s11 W => s11 = .bool (((!d.2) && xo) && ao) ∧ RTc V bo bs q d.1 W ∧ Blk W bn (frc av) 25)
          case first =>
            have HT5 := Lib.hid hT5
            clear hT5
            cases hdv : d.2 <;> rcases xo with _ | _ <;> rcases ao with _ | _
            all_goals go_wp2
            all_goals (go_meet; exact ⟨by rw [hdv]; rfl, HT5.out, hN5⟩)
          clear hT5 hN5
          rename World => wy
          obtain ⟨q11, hT, hN⟩ := hcut
          subst q11
          obtain ⟨x0, x1, x2⟩ := blk_fr0 hN
          obtain ⟨f0, f1, f2⟩ := blk_fr0 hT.s
          have ff := blk_free hT.s
          go_wp2
          go_roundw
          case rel =>
            refine ⟨k + 1, by omega, by go_num, ?_, ?_⟩
            · rw [HNX.out]
              show Value.bool (((!d.2) && xo) && ao) = Value.bool (!((d.2 || !xo) || !ao))
              rcases d.2 with _ | _ <;> rcases xo with _ | _ <;> rcases ao with _ | _ <;> rfl
            · rw [HNX.out]
              exact hT.put av
          case measure => simp [intOf]; omega
        · obtain rfl : k = 4 := by omega
          obtain ⟨f0, f1, f2⟩ := blk_fr0 hT.s
          obtain ⟨z0, z1, z2⟩ := HFT.out wo hT.B
          have hBo := hT.B
          have hoo := hT.o
          rw [← HDD.out] at HSUM
          clear hT
          cases hd2 : d.2
          · rw [HSUM.out hd2] at z0 z1 z2
            clear hd2
            go_upto_region 20 with fail
            go_quiet (fail)
            go_wp2
            go_roundw
            case rel => exact ⟨i + 1, by omega, by go_num, below_drewN hBo _, hoo⟩
            case measure => first | (simp [intOf]; done) | (simp [intOf]; omega)
          · clear hd2
            go_upto_region 20 with fail
            go_quiet (fail)
            go_wp2
            go_roundw
            case rel => exact ⟨i + 1, by omega, by go_num, below_drewN hBo _, hoo⟩
            case measure => first | (simp [intOf]; done) | (simp [intOf]; omega)
    · obtain rfl : i = 4 := by omega
      have hBw : Below w.heap.size w wz := bstep hBV hBz hBV.size
      go_wp2
      go_ret
      exact ⟨rfl, by exact below_⟩
end
end
section
open Go.ChangeShapes Go.WideShapes Go.ChangeAt Go.RowKit Go.WideElems
namespace fnCalibrate
set_option maxRecDepth 100000 in
/-- What the walk gives, for every argument and every world that holds the listed variables. -/
theorem contract (H : Type) (enc : TypeId × Value → H) (W : World) (base : Nat) (args : Array Value) (ds gs : List (DataW H)) (before : List MemPlace)
    (hval : ∀ (j : Nat) t v, Tryd.f5.params[j]? = some t → args[j]? = some v → Value.okWide Tryd.prog W .any base t v)
    (hW : DataW.Whole enc Tryd.prog Tryd.f5.params.toList Rows.fnCalibrateSpec.vars false W args.toList ds gs before) (hL : laidMetH Tryd.prog Rows.fnCalibrateRow.laid W) :
    Calls Tryd.prog 5 args W fun e W' => ∃ v, e = .returned v ∧ Rows.fnCalibrateSpec.post enc Tryd.prog Tryd.f5 false true false false W args v W' := by
  have hW' := hW
  obtain ⟨p, q, hA0, hV, rfl, hfz, hnd⟩ := hW
  have hA : DataW.TrodAll enc Tryd.prog W 0 (fun _ => true) true Tryd.f5.params.toList args.toList ds p := hA0
  rw [Tryd.params5] at hA hval
  obtain ⟨v0, vs0, d0, ds0, p0, q0, hargs, rfl, rfl, h0, r0⟩ := trodAll_cons hA
  obtain ⟨rfl, rfl, rfl⟩ := trodAll_nil r0
  obtain rfl : args = #[v0] := by cases args; simp_all
  obtain ⟨Axs, lenxs, capxs, rfl, hbyxs⟩ := open_bytes (hval 0 33 v0 rfl rfl) h0
  rw [MakeChecks.laidMetH_plain _ _ _ (by kernel_rfl)] at hL
  obtain ⟨_, ⟨g0, t0, cs0, f0, pp0, qq0, hg0, ht0, hv0, hd0, _, _⟩, _, _⟩ := hL
  have hGZ : GZ W := gv_zero hg0 ht0 hv0 hd0
  have hgs : gs.length = 1 := trodVars_length hV
  obtain ⟨y0, rfl⟩ : ∃ y0, gs = [y0] := by
    match gs, hgs with
    | [y0], _ => exact ⟨y0, rfl⟩
  have hp : ∀ t ∈ Tryd.f5.params.toList, Tryd.prog.readableRec t = true ∧ t < Tryd.prog.types.size := by
      rw [Tryd.params5]
      intro t ht
      have hm : t ∈ [33] := by simpa using ht
      have hall : ([33].all fun u => Tryd.prog.readableRec u && decide (u < Tryd.prog.types.size)) = true := by kernel_rfl
      have := List.all_eq_true.1 hall t hm
      simpa using this
  have hvv : ∀ n ∈ Rows.fnCalibrateSpec.vars, ∀ g t, Tryd.prog.globalNamed n = some g → (Tryd.prog.globals[g]?).map (·.type) = some t → Tryd.prog.readableRec t = true ∧ t < Tryd.prog.types.size := by
      intro n hn g t hg ht
      simp only [Rows.fnCalibrateSpec, List.mem_cons, List.not_mem_nil, or_false] at hn
      subst hn
      exact gr_zero g t hg ht
  refine (fnCalibrate_walk Axs lenxs capxs W hbyxs hGZ).mono fun e W' ⟨he, hb⟩ => ?_
  subst he
  exact ⟨_, rfl, post_true hW' hb (by kernel_rfl) hp hvv rfl rfl rfl⟩
/-- A world for the witness: the settled one, the listed variables holding what their initialisers lay. -/
noncomputable def laidWorld (os : Os) : World := { World.holding Tryd.prog os ⟨#[], #[], []⟩ with heap := ((World.holding Tryd.prog os ⟨#[], #[], []⟩).heap.modify 0 fun | .cells _ t frozen => .cells #[.int .i64 0, .int .i64 0, .int .i64 1] t frozen | o => o) }
theorem laid_met (os : Os) : laidMet Tryd.prog Rows.fnCalibrateRow.laid ((laidWorld os).forCall (fun _ _ => 0) ⟨#[], #[.slice none 0 0], []⟩).memory :=
  laidMet_of_run' 8 (by kernel_rfl) (by kernel_rfl)
theorem reads (os : Os) {H : Type} (enc : TypeId × Value → H) : DataW.whole enc Tryd.prog ((laidWorld os).forCall (fun _ _ => 0) ⟨#[], #[.slice none 0 0], []⟩).memory Tryd.f5.params.toList Rows.fnCalibrateSpec.vars false (#[.slice none 0 0] : Array Value).toList 8 = some ([.nil], [.agg [.lit (.int .i64 0), .lit (.int .i64 0), .lit (.int .i64 1)]], [.cell 0 0, .cell 0 1, .cell 0 2]) := by kernel_rfl
set_option maxRecDepth 100000 in
theorem lifted (os : Os) (started : os.Started) (H : Type) (enc : TypeId × Value → H) (F : Stop.Interp) :
    ReturnsInHanded {} Tryd.checked os 5 .any ((OpenSpec.ofChange Rows.fnCalibrateSpec).preRow enc Tryd.prog Tryd.f5 Rows.fnCalibrateRow.domain false Rows.fnCalibrateRow.laid) (((OpenSpec.ofChange Rows.fnCalibrateSpec).at F).post enc Tryd.prog Tryd.f5 false true false false) := by
  refine returnsInHanded_of_row (C := Tryd.checked) (s := OpenSpec.ofChange Rows.fnCalibrateSpec) own started (by kernel_rfl) Tryd.func5
    (witness_row_at (enc := enc) (C := Tryd.checked) false (laidWorld os) #[.slice none 0 0] rfl (by kernel_rfl) (by kernel_rfl) (by kernel_rfl)
      (OpenSpec.preRow_of_cond 8 (reads os enc) (by kernel_rfl) (fun k hk => by cases hk) (by kernel_rfl) (laid_met os))) ?_
  intro W base args ds gs before hval hW _ _ _ hL _ _
  exact contract H enc W base args ds gs before hval hW hL
theorem said : Rows.FnCalibrateSaid :=
  OpenClaim.holds_of_cond 5 Tryd.f5 rfl rfl rfl rfl rfl rfl rfl ⟨rfl, rfl, rfl, rfl, rfl⟩ rfl rfl rfl rfl rfl (by kernel_rfl) Tryd.func5 (by kernel_rfl)
    (of_decide_eq_true (by kernel_rfl)) (by unfold Func.isWrapper; first | (rw [if_pos (by decide +kernel)]; kernel_rfl) | (rw [if_neg (by decide +kernel)]; exact ⟨rfl, rfl⟩))
    (fun os started H enc _ F => by rw [OpenClaim.pre_eq_preRow]; exact lifted os started H enc F)
theorem plain (f : FuncId) (fn : Func) (hf : Tryd.pinned.checked.prog.funcNamed "loop.example/polarisedlight/laws.FnCalibrate" = some f) (hfn : Tryd.pinned.checked.prog.funcs[f]? = some fn) :
    false = Tryd.pinned.checked.prog.looks [] ∧ ∀ (j : Nat) t, fn.params[j]? = some t → Tryd.pinned.checked.prog.wantsStandIn t = false := by
  obtain rfl : f = 5 := Option.some.inj ((show Tryd.prog.funcNamed "loop.example/polarisedlight/laws.FnCalibrate" = some 5 by kernel_rfl).symm.trans hf) |>.symm
  obtain rfl : fn = Tryd.f5 := (Option.some.inj (Tryd.func5.symm.trans hfn)).symm
  refine ⟨by kernel_rfl, fun j t ht => ?_⟩
  rw [Tryd.params5] at ht
  have hm : t ∈ [33] := by simpa using Array.mem_of_getElem? ht
  have hall : ([33].all fun u => !Tryd.prog.wantsStandIn u) = true := by kernel_rfl
  exact (show Tryd.prog.wantsStandIn t = false by simpa using List.all_eq_true.1 hall t hm)
/-- The card of the law: its row holds, and what it lists is tied to the program's text. -/
theorem card : Rows.FnCalibrateCardSaid :=
  Claim7.holds_tied_plain_at .later [] _ _ _ _ said (fun _ h => by cases h) (by kernel_rfl) (fun _ h => by cases h) fnCalibrate_row_tie rfl ⟨rfl, rfl⟩ (by kernel_rfl) rfl plain (by kernel_rfl)
end fnCalibrate
end
end Go.Proofs.YtalcjmefmffcnaaDoor
