/-
  The walks of MeterCalibrate, the program's and the reference's.
-/
import Derived.Test.YtalcjmefmffcnaaDoorKj
import Derived.Test.YtalcjmefmffcnaaDoorPh
namespace Go.Proofs.YtalcjmefmffcnaaDoor
set_option linter.unusedSimpArgs false
set_option linter.unusedVariables false
open Go.RowKit
attribute [local go_sem ↓] Go.wp_at_zero Go.wp_at_succ
theorem ArrW.newM (W : World) (m : Mt) (t : TypeId) : ArrW (W.alloc (.cells #[.int .i64 m.a.re, .int .i64 m.a.im, .int .i64 m.a.den, .int .i64 m.b.re, .int .i64 m.b.im, .int .i64 m.b.den, .int .i64 m.c.re, .int .i64 m.c.im, .int .i64 m.c.den, .int .i64 m.d.re, .int .i64 m.d.im, .int .i64 m.d.den] t)) W.heap.size (row4 m) := by
  refine ⟨fun i s hi => ?_, fun o => frozenNew W _ t o, by simp⟩
  have hi4 := (List.getElem?_eq_some_iff.1 hi).1
  have : i = 0 ∨ i = 1 ∨ i = 2 ∨ i = 3 := by simp [row4] at hi4; omega
  rcases this with rfl | rfl | rfl | rfl <;> (simp [row4] at hi; subst hi; exact ⟨World.cell?_alloc_at _ _ _ _ rfl, World.cell?_alloc_at _ _ _ _ rfl, World.cell?_alloc_at _ _ _ _ rfl⟩)
theorem arrV_form (o : Option (List Fr)) : ∃ (q : Mt) (ok : Bool), arrV o = .tuple #[mtv q, .bool ok] := by
  unfold arrV
  split
  · rename_i x y z u
    exact ⟨⟨x, y, z, u⟩, true, rfl⟩
  · exact ⟨⟨⟨0, 0, 0⟩, ⟨0, 0, 0⟩, ⟨0, 0, 0⟩, ⟨0, 0, 0⟩⟩, false, rfl⟩
/-- What calibration gives, the program's way and the reference's. -/
def calI (ks : List Mt) (rs : List Fr) : Option (List Fr) := if ks.all mreal then solI (ks.map row4) rs else none
def calS (ks : List Mt) (rs : List Fr) : Option (List Fr) := if decide (ks.length = 4) && ks.all mreal then solS (ks.map row4) rs else none
theorem cal_eq (ks : List Mt) (rs : List Fr) : calI ks rs = calS ks rs := by
  unfold calI calS
  cases hr : ks.all mreal
  · simp
  by_cases hl : ks.length = 4
  · have hsq : Sq 3 (ks.map row4) := by
      refine ⟨by rw [List.length_map, hl], fun r hm => ?_⟩
      obtain ⟨m, hm1, rfl⟩ := List.mem_map.1 hm
      have h1 := List.all_eq_true.1 hr m hm1
      simp only [mreal, Bool.and_eq_true] at h1
      refine ⟨rfl, fun f hf => ?_⟩
      simp only [row4, List.mem_cons, List.not_mem_nil, or_false] at hf
      rcases hf with rfl | rfl | rfl | rfl
      · exact h1.1
      · exact h1.2.1
      · exact h1.2.2.1
      · exact h1.2.2.2
    simp [hl, sol_eq hsq]
  · have : solI (ks.map row4) rs = none := by
      unfold solI
      rw [if_neg]
      simp only [Bool.and_eq_true, decide_eq_true_eq, List.length_map]
      omega
    simp [hl, this]
theorem row4_len {ks : List Mt} : ∀ r ∈ ks.map row4, r.length = 4 := fun r hr => by
  obtain ⟨m, _, rfl⟩ := List.mem_map.1 hr
  rfl
theorem allM_succ {xs : List Mt} {k : Nat} {s : Mt} (h : xs[k]? = some s) : (xs.take (k + 1)).all mreal = ((xs.take k).all mreal && mreal s) := by
  rw [List.take_add_one, h]; simp
theorem allM_fails {xs : List Mt} {k : Nat} {s : Mt} (h : xs[k]? = some s) (hs : mreal s = false) : xs.all mreal = false := by
  have hm : s ∈ xs := List.mem_of_getElem? h
  rw [Bool.eq_false_iff]
  intro hc
  rw [List.all_eq_true.1 hc s hm] at hs
  cases hs
theorem rows_next {xs : List Mt} {k : Nat} {s : Mt} (h : xs[k]? = some s) : (xs.take (k + 1)).map row4 = (xs.take k).map row4 ++ [row4 s] := by
  rw [List.take_add_one, h, List.map_append]; rfl
theorem solve_m (A : Option Addr) (len cap : Nat) (rows : List (List Fr)) (A2 : Option Addr) (len2 cap2 : Nat) (rs : List Fr) (q : Mt) (ok : Bool) (w : World) (hR0 : ∀ bs, w.heap.size ≤ bs → RowsAt bs A len cap rows w) (hrl : ∀ r ∈ rows, r.length = 4) (hF : Frs A2 len2 cap2 rs w) (hG : GZ w) (e : Hid (arrV (solI rows rs) = .tuple #[mtv q, .bool ok])) :
    Calls Tryd.prog 65 #[.slice A len cap, .slice A2 len2 cap2] w fun e w' => e = .returned (.tuple #[mtv q, .bool ok]) ∧ Below w.heap.size w w' := by
  rw [← e.out]; exact solve_any A len cap rows A2 len2 cap2 rs w hR0 hrl hF hG
theorem ssolve_m (A : Option Addr) (cap : Nat) (rows : List (List Fr)) (A2 : Option Addr) (len2 cap2 : Nat) (rs : List Fr) (q : Mt) (ok : Bool) (w : World) (hR0 : ∀ bs, w.heap.size ≤ bs → RowsAt bs A 4 cap rows w) (hrl : ∀ r ∈ rows, r.length = 4) (hF : Frs A2 len2 cap2 rs w) (e : Hid (arrV (solS rows rs) = .tuple #[mtv q, .bool ok])) :
    Calls Tryd.prog 67 #[.slice A 4 cap, .slice A2 len2 cap2] w fun e w' => e = .returned (.tuple #[mtv q, .bool ok]) ∧ Below w.heap.size w w' := by
  rw [← e.out]; exact ssolve_any A cap rows A2 len2 cap2 rs w hR0 hrl hF
set_option maxRecDepth 100000 in
set_option maxHeartbeats 16000000 in
theorem cal_any (A : Option Addr) (len cap : Nat) (ks : List Mt) (A2 : Option Addr) (len2 cap2 : Nat) (rs : List Fr) (w : World) (hS : Sts A len cap ks w) (hF : Frs A2 len2 cap2 rs w) (hbig : len ≤ 1048576) (hG : GZ w) :
    Calls Tryd.prog 22 #[.slice A len cap, .slice A2 len2 cap2] w fun e w' => e = .returned (arrV (calI ks rs)) ∧ Below w.heap.size w w' := by
  have hl := hS.2.1
  have hm := hS.2.2.1
  have HL := Lib.hid hS.1
  obtain ⟨R, hR⟩ : ∃ R, R = arrV (calI ks rs) := ⟨_, rfl⟩
  rw [← hR]
  have HR := Lib.hid hR
  clear hR
  have hA0 := (ArrW.zero w 26).alloc (.cells #[] 39)
  have hO0 := OwRs.made (w.alloc (.cells #[.int .i64 0, .int .i64 0, .int .i64 0, .int .i64 0, .int .i64 0, .int .i64 0, .int .i64 0, .int .i64 0, .int .i64 0, .int .i64 0, .int .i64 0, .int .i64 0] 26)) (w.heap.size + 1) (by simp)
  have hB0 : Below w.heap.size w ((w.alloc (.cells #[.int .i64 0, .int .i64 0, .int .i64 0, .int .i64 0, .int .i64 0, .int .i64 0, .int .i64 0, .int .i64 0, .int .i64 0, .int .i64 0, .int .i64 0, .int .i64 0] 26)).alloc (.cells #[] 39)) := by exact below_
  go_enter Tryd.func22, Tryd.ntmps22
  go_wp2
  go_loopw [6, 12] (fun v iv wr => ∃ k : Nat, k ≤ len ∧ iv = .int .i64 k ∧ OwRs (w.heap.size + 1) v ((ks.take k).map row4) wr ∧ Hid ((ks.take k).all mreal = true) ∧ ArrW wr w.heap.size zs4 ∧ Below w.heap.size w wr) (fun _ iv _ => len - (intOf iv).toNat)
  case atStart => exact ⟨0, Nat.zero_le _, rfl, (by simpa using hO0), rfl, hA0, hB0⟩
  case round =>
    clear hO0 hA0 hB0
    obtain ⟨k, hk, rfl, hO, hall, hA, hB⟩ := hrel
    have hz := hB.size
    have hal := hA.l
    by_cases hkl : k < len
    · obtain ⟨b1, o1, m, rfl, hlt1, hs1, hc1⟩ := hS.at hB hkl
      have hst : ∀ W', Below w.heap.size w W' → StAt W' b1 (o1 + k * 12) m := by
        intro W' hW
        obtain ⟨b', o', m', e, -, hm', hat⟩ := hS.at hW hkl
        simp only [Option.some.injEq, Addr.mk.injEq, and_true] at e
        obtain ⟨rfl, rfl⟩ := e
        rw [hs1] at hm'
        obtain rfl := Option.some.inj hm'
        exact hat
      obtain ⟨c0, c1, c2, c3, c4, c5, c6, c7, c8, c9, c10, c11⟩ := hc1.cells
      have HS1 := Lib.hid hs1
      have HST := Lib.hid hst
      clear hs1 hc1 hst
      go_wp2_with (go_at_call 64; (with_reducible refine (stokes_any m _).mono ?_); rintro e w1 ⟨rfl, hb⟩; refine Hid.out ?_)
      refine Lib.hid ?_
      have hO1 := (hO.alloc (.cells #[.int .i64 m.a.re, .int .i64 m.a.im, .int .i64 m.a.den, .int .i64 m.b.re, .int .i64 m.b.im, .int .i64 m.b.den, .int .i64 m.c.re, .int .i64 m.c.im, .int .i64 m.c.den, .int .i64 m.d.re, .int .i64 m.d.im, .int .i64 m.d.den] 44)).below (B := 0) hb
      have hA1 := (hA.alloc (.cells #[.int .i64 m.a.re, .int .i64 m.a.im, .int .i64 m.a.den, .int .i64 m.b.re, .int .i64 m.b.im, .int .i64 m.b.den, .int .i64 m.c.re, .int .i64 m.c.im, .int .i64 m.c.den, .int .i64 m.d.re, .int .i64 m.d.im, .int .i64 m.d.den] 44)).below hb
      have hB1 : Below w.heap.size w w1 := bstep (hB.alloc hz _) hb (by simp; omega)
      have hx1 := (ArrW.newM wr m 44).below hb
      have hz1 : wr.heap.size ≤ w1.heap.size := by have := hb.size; simp at this; omega
      clear hb hO hA hB c0 c1 c2 c3 c4 c5 c6 c7 c8 c9 c10 c11
      cases hr : mreal m
      · have he : calI ks rs = none := by
          unfold calI
          rw [allM_fails HS1.out hr]
          simp
        obtain ⟨z0, z1, z2, z3, z4, z5, z6, z7, z8, z9, z10, z11⟩ := (hA1).z
        have hzf := (hA1).f
        have hzl := (hA1).l
        have hBF := hB1
        go_wp2
        exact bodyPost_ret (v := .tuple #[.agg #[.int .i64 0, .int .i64 0, .int .i64 0, .int .i64 0, .int .i64 0, .int .i64 0, .int .i64 0, .int .i64 0, .int .i64 0, .int .i64 0, .int .i64 0, .int .i64 0], .bool false]) (by simp [results, Tryd.results22, go_sem, *]) rfl ⟨by rw [HR.out, he]; rfl, by exact below_⟩
      · have HRR := Lib.hid hr
        have HNX := Lib.hid (rows_next HS1.out)
        have hml : ((ks.take k).map row4).length + 1 < 4000000 := by rw [List.length_map, List.length_take]; omega
        have hbz : Below w1.heap.size w1 (w1.alloc (.cells #[] 25)) := (Below.refl _ _).alloc (Nat.le_refl _) _
        clear hr
        have hAd : ∃ bb off : Nat, some (⟨wr.heap.size, 0, none⟩ : Addr) = some ⟨bb, off, none⟩ ∧ ∀ i z, (row4 m)[i]? = some z → FAt (w1.alloc (.cells #[] 25)) bb (off + i * 3) z :=
          ⟨wr.heap.size, 0, rfl, fun i z hi => by rw [Nat.zero_add]; exact (hx1.alloc _).c i z hi⟩
        go_wp2_with (at_builtin; refine wpList_appF rfl (.tmp 21) (.tmp 23) rfl w1.heap.size _ [] _ (by rfl) (OwF.made w1 w1.heap.size (Nat.le_refl _)) (some ⟨wr.heap.size, 0, none⟩) 4 4 (row4 m) (by rfl) rfl hAd (by simp) hbz.size ?_; intro v1 w2 hP1 hg1 hat1; refine Hid.out ?_)
        refine Lib.hid ?_
        have hP2 : OwF w1.heap.size v1 (row4 m) w2 := hP1
        have hb2 : Below w1.heap.size w1 w2 := Below.grown hbz hg1 hbz.size (fun kk e => by simp [Value.ownBlock] at e; omega)
        obtain ⟨A9, c9, e9, -⟩ := hP2.frs
        rw [show (row4 m).length = 4 from rfl] at e9
        subst e9
        have hA2 := (hA1.below hb2).alloc (.cells #[.slice A9 4 c9] 39)
        have hB2 : Below w.heap.size w (w2.alloc (.cells #[.slice A9 4 c9] 39)) := by
          have h9 : Below w.heap.size w w2 := bstep hB1 hb2 hB1.size
          exact h9.alloc h9.size _
        clear hP1 hg1 hat1 hAd hbz
        go_wp2_with (at_builtin; refine wpList_appR rfl (.tmp 20) (.tmp 25) rfl (w.heap.size + 1) _ ((ks.take k).map row4) _ (by rfl) ((OwRs.below (B := 0) hO1 hb2).alloc _) w2.heap.size 1 (by rfl) w1.heap.size (.slice A9 4 c9) (row4 m) (hP2.alloc _) (fun kk e => (hO1.lt kk e).2) (by have := hA1.l; omega) (World.cell?_alloc_at _ _ _ _ rfl) hml (by have := hB2.size; have := hA2.l; simp at *; omega) ?_; intro v3 w3 hO3 hg3; refine Hid.out ?_)
        refine Lib.hid ?_
        have hA3 : ArrW w3 w.heap.size zs4 := hA2.same (hg3.block _ hA2.l (fun e => by have := (hO1.lt _ e.symm).1; omega))
        have hB3 : Below w.heap.size w w3 := Below.grown hB2 hg3 hB2.size (fun kk e => by have := (hO1.lt kk e).1; omega)
        go_wp2
        go_roundw
        case rel => exact ⟨k + 1, by omega, by go_num, by rw [HNX.out]; exact hO3, by rw [Hid, allM_succ HS1.out, hall.out, HRR.out]; rfl, hA3, hB3⟩
        case measure => simp [intOf]; omega
    · obtain rfl : k = len := by omega
      have hreal : ks.all mreal = true := by
        have := hall.out
        rwa [List.take_of_length_le (by have := HL.out; omega)] at this
      rw [List.take_of_length_le (by have := HL.out; omega)] at hO
      have hlen : (ks.map row4).length = k := by rw [List.length_map, HL.out]
      obtain ⟨A8, c8, e8, -⟩ := hO.readA (bs := wr.heap.size) (Nat.le_refl _)
      rw [hlen] at e8
      subst e8
      have hRR : ∀ bs, wr.heap.size ≤ bs → RowsAt bs A8 k c8 (ks.map row4) wr := by
        intro bs hbs
        obtain ⟨A', c', e', hR'⟩ := hO.readA hbs
        rw [hlen] at e' hR'
        simp only [Value.slice.injEq, true_and] at e'
        obtain ⟨rfl, rfl⟩ := e'
        exact hR'
      obtain ⟨q, ok, hq⟩ := arrV_form (solI (ks.map row4) rs)
      have hv : R = .tuple #[mtv q, .bool ok] := by
        rw [HR.out, ← hq]
        unfold calI
        rw [hreal]
        simp
      have HQ := Lib.hid hq
      have HV := Lib.hid hv
      clear hq hv hreal hall
      go_wp2_with (go_at_call 65; (with_reducible refine (solve_m A8 k c8 (ks.map row4) A2 len2 cap2 rs q ok _ hRR row4_len (hF.below hB) (hG.below hB) HQ).mono ?_); rintro e w5 ⟨rfl, hb⟩; refine Hid.out ?_)
      refine Lib.hid ?_
      have hA5 := hA.below hb
      have hB5 : Below w.heap.size w w5 := bstep hB hb hz
      obtain ⟨z0, z1, z2, z3, z4, z5, z6, z7, z8, z9, z10, z11⟩ := hA5.z
      have hzf := hA5.f
      have hzl := hA5.l
      clear hb hRR
      go_wp2
      exact bodyPost_ret (v := .tuple #[mtv q, .bool ok]) (by simp [results, Tryd.results22, go_sem, *]) rfl ⟨by rw [HV.out], by exact below_⟩
set_option maxRecDepth 100000 in
set_option maxHeartbeats 16000000 in
theorem scal_any (A : Option Addr) (len cap : Nat) (ks : List Mt) (A2 : Option Addr) (len2 cap2 : Nat) (rs : List Fr) (w : World) (hS : Sts A len cap ks w) (hF : Frs A2 len2 cap2 rs w) (hbig : len ≤ 1048576) :
    Calls Tryd.prog 23 #[.slice A len cap, .slice A2 len2 cap2] w fun e w' => e = .returned (arrV (calS ks rs)) ∧ Below w.heap.size w w' := by
  have hl := hS.2.1
  have hm := hS.2.2.1
  have HL := Lib.hid hS.1
  obtain ⟨R, hR⟩ : ∃ R, R = arrV (calS ks rs) := ⟨_, rfl⟩
  rw [← hR]
  have HR := Lib.hid hR
  clear hR
  have hA0 := (ArrW.zero w 26).alloc (.cells #[] 39)
  have hO0 := OwRs.made (w.alloc (.cells #[.int .i64 0, .int .i64 0, .int .i64 0, .int .i64 0, .int .i64 0, .int .i64 0, .int .i64 0, .int .i64 0, .int .i64 0, .int .i64 0, .int .i64 0, .int .i64 0] 26)) (w.heap.size + 1) (by simp)
  have hB0 : Below w.heap.size w ((w.alloc (.cells #[.int .i64 0, .int .i64 0, .int .i64 0, .int .i64 0, .int .i64 0, .int .i64 0, .int .i64 0, .int .i64 0, .int .i64 0, .int .i64 0, .int .i64 0, .int .i64 0] 26)).alloc (.cells #[] 39)) := by exact below_
  by_cases h4 : len = 4
  case neg =>
    have hn4 : ((len : Int) == 4) = false := by simp; omega
    have hn4' : ((len : Int) != 4) = true := by simp; omega
    have he : calS ks rs = none := by
      unfold calS
      rw [if_neg]
      have := HL.out
      simp only [Bool.and_eq_true, decide_eq_true_eq]
      omega
    go_enter Tryd.func23, Tryd.ntmps23
    obtain ⟨z0, z1, z2, z3, z4, z5, z6, z7, z8, z9, z10, z11⟩ := (hA0).z
    have hzf := (hA0).f
    have hzl := (hA0).l
    have hBF := hB0
    go_wp2
    exact bodyPost_ret (v := .tuple #[.agg #[.int .i64 0, .int .i64 0, .int .i64 0, .int .i64 0, .int .i64 0, .int .i64 0, .int .i64 0, .int .i64 0, .int .i64 0, .int .i64 0, .int .i64 0, .int .i64 0], .bool false]) (by simp [results, Tryd.results23, go_sem, *]) rfl ⟨by rw [HR.out, he]; rfl, by exact below_⟩
  subst h4
  go_enter Tryd.func23, Tryd.ntmps23
  go_wp2
  go_loopw [6, 7] (fun v iv wr => ∃ k : Nat, k ≤ 4 ∧ iv = .int .i64 k ∧ OwRs (w.heap.size + 1) v ((ks.take k).map row4) wr ∧ Hid ((ks.take k).all mreal = true) ∧ ArrW wr w.heap.size zs4 ∧ Below w.heap.size w wr) (fun _ iv _ => 4 - (intOf iv).toNat)
  case atStart => exact ⟨0, Nat.zero_le _, rfl, (by simpa using hO0), rfl, hA0, hB0⟩
  case round =>
    clear hO0 hA0 hB0
    obtain ⟨k, hk, rfl, hO, hall, hA, hB⟩ := hrel
    have hz := hB.size
    have hal := hA.l
    by_cases hkl : k < 4
    · obtain ⟨b1, o1, m, rfl, hlt1, hs1, hc1⟩ := hS.at hB hkl
      have hst : ∀ W', Below w.heap.size w W' → StAt W' b1 (o1 + k * 12) m := by
        intro W' hW
        obtain ⟨b', o', m', e, -, hm', hat⟩ := hS.at hW hkl
        simp only [Option.some.injEq, Addr.mk.injEq, and_true] at e
        obtain ⟨rfl, rfl⟩ := e
        rw [hs1] at hm'
        obtain rfl := Option.some.inj hm'
        exact hat
      obtain ⟨c0, c1, c2, c3, c4, c5, c6, c7, c8, c9, c10, c11⟩ := hc1.cells
      have HS1 := Lib.hid hs1
      have HST := Lib.hid hst
      clear hs1 hc1 hst
      go_wp2_with (go_at_call 66; (with_reducible refine (sstokes_any m _).mono ?_); rintro e w1 ⟨rfl, hb⟩; refine Hid.out ?_)
      refine Lib.hid ?_
      have hO1 := hO.below (B := 0) hb
      have hA1 := hA.below hb
      have hB1 : Below w.heap.size w w1 := bstep hB hb hz
      have hz1 : wr.heap.size ≤ w1.heap.size := hb.size
      clear hb hO hA hB c0 c1 c2 c3 c4 c5 c6 c7 c8 c9 c10 c11
      cases hr : mreal m
      · have he : calS ks rs = none := by
          unfold calS
          rw [allM_fails HS1.out hr]
          simp
        obtain ⟨z0, z1, z2, z3, z4, z5, z6, z7, z8, z9, z10, z11⟩ := (hA1).z
        have hzf := (hA1).f
        have hzl := (hA1).l
        have hBF := hB1
        go_wp2
        exact bodyPost_ret (v := .tuple #[.agg #[.int .i64 0, .int .i64 0, .int .i64 0, .int .i64 0, .int .i64 0, .int .i64 0, .int .i64 0, .int .i64 0, .int .i64 0, .int .i64 0, .int .i64 0, .int .i64 0], .bool false]) (by simp [results, Tryd.results23, go_sem, *]) rfl ⟨by rw [HR.out, he]; rfl, by exact below_⟩
      · have HRR := Lib.hid hr
        have HNX := Lib.hid (rows_next HS1.out)
        have hml : ((ks.take k).map row4).length + 1 < 4000000 := by rw [List.length_map, List.length_take]; omega
        have hbz : Below w1.heap.size w1 (w1.alloc (.cells #[] 25)) := (Below.refl _ _).alloc (Nat.le_refl _) _
        clear hr
        have hAd : ∃ bb off : Nat, some (⟨b1, o1 + k * 12, none⟩ : Addr) = some ⟨bb, off, none⟩ ∧ ∀ i z, (row4 m)[i]? = some z → FAt (w1.alloc (.cells #[] 25)) bb (off + i * 3) z := by
          have q := HST.out _ (hB1.alloc hB1.size (.cells #[] 25))
          refine ⟨b1, _, rfl, fun i z hi => ?_⟩
          have hi4 := (List.getElem?_eq_some_iff.1 hi).1
          have : i = 0 ∨ i = 1 ∨ i = 2 ∨ i = 3 := by simp [row4] at hi4; omega
          rcases this with rfl | rfl | rfl | rfl <;> (simp [row4] at hi; subst hi)
          · exact q.1
          · exact q.2.1
          · exact q.2.2.1
          · exact q.2.2.2
        go_wp2_with (at_builtin; refine wpList_appF rfl (.tmp 25) (.tmp 30) rfl w1.heap.size _ [] _ (by rfl) (OwF.made w1 w1.heap.size (Nat.le_refl _)) (some ⟨b1, o1 + k * 12, none⟩) 4 4 (row4 m) (by rfl) rfl hAd (by simp) hbz.size ?_; intro v1 w2 hP1 hg1 hat1; refine Hid.out ?_)
        refine Lib.hid ?_
        have hP2 : OwF w1.heap.size v1 (row4 m) w2 := hP1
        have hb2 : Below w1.heap.size w1 w2 := Below.grown hbz hg1 hbz.size (fun kk e => by simp [Value.ownBlock] at e; omega)
        obtain ⟨A9, c9, e9, -⟩ := hP2.frs
        rw [show (row4 m).length = 4 from rfl] at e9
        subst e9
        have hA2 := (hA1.below hb2).alloc (.cells #[.slice A9 4 c9] 39)
        have hB2 : Below w.heap.size w (w2.alloc (.cells #[.slice A9 4 c9] 39)) := by
          have h9 : Below w.heap.size w w2 := bstep hB1 hb2 hB1.size
          exact h9.alloc h9.size _
        clear hP1 hg1 hat1 hAd hbz
        go_wp2_with (at_builtin; refine wpList_appR rfl (.tmp 24) (.tmp 32) rfl (w.heap.size + 1) _ ((ks.take k).map row4) _ (by rfl) ((OwRs.below (B := 0) hO1 hb2).alloc _) w2.heap.size 1 (by rfl) w1.heap.size (.slice A9 4 c9) (row4 m) (hP2.alloc _) (fun kk e => (hO1.lt kk e).2) (by have := hA1.l; omega) (World.cell?_alloc_at _ _ _ _ rfl) hml (by have := hB2.size; have := hA2.l; simp at *; omega) ?_; intro v3 w3 hO3 hg3; refine Hid.out ?_)
        refine Lib.hid ?_
        have hA3 : ArrW w3 w.heap.size zs4 := hA2.same (hg3.block _ hA2.l (fun e => by have := (hO1.lt _ e.symm).1; omega))
        have hB3 : Below w.heap.size w w3 := Below.grown hB2 hg3 hB2.size (fun kk e => by have := (hO1.lt kk e).1; omega)
        go_wp2
        go_roundw
        case rel => exact ⟨k + 1, by omega, by go_num, by rw [HNX.out]; exact hO3, by rw [Hid, allM_succ HS1.out, hall.out, HRR.out]; rfl, hA3, hB3⟩
        case measure => simp [intOf]; omega
    · obtain rfl : k = 4 := by omega
      have hreal : ks.all mreal = true := by
        have := hall.out
        rwa [List.take_of_length_le (by have := HL.out; omega)] at this
      rw [List.take_of_length_le (by have := HL.out; omega)] at hO
      have hlen : (ks.map row4).length = 4 := by rw [List.length_map, HL.out]
      obtain ⟨A8, c8, e8, -⟩ := hO.readA (bs := wr.heap.size) (Nat.le_refl _)
      rw [hlen] at e8
      subst e8
      have hRR : ∀ bs, wr.heap.size ≤ bs → RowsAt bs A8 4 c8 (ks.map row4) wr := by
        intro bs hbs
        obtain ⟨A', c', e', hR'⟩ := hO.readA hbs
        rw [hlen] at e' hR'
        simp only [Value.slice.injEq, true_and] at e'
        obtain ⟨rfl, rfl⟩ := e'
        exact hR'
      obtain ⟨q, ok, hq⟩ := arrV_form (solS (ks.map row4) rs)
      have hv : R = .tuple #[mtv q, .bool ok] := by
        rw [HR.out, ← hq]
        unfold calS
        rw [hreal, HL.out]
        simp
      have HQ := Lib.hid hq
      have HV := Lib.hid hv
      clear hq hv hreal hall
      go_wp2_with (go_at_call 67; (with_reducible refine (ssolve_m A8 c8 (ks.map row4) A2 len2 cap2 rs q ok _ hRR row4_len (hF.below hB) HQ).mono ?_); rintro e w5 ⟨rfl, hb⟩; refine Hid.out ?_)
      refine Lib.hid ?_
      have hA5 := hA.below hb
      have hB5 : Below w.heap.size w w5 := bstep hB hb hz
      obtain ⟨z0, z1, z2, z3, z4, z5, z6, z7, z8, z9, z10, z11⟩ := hA5.z
      have hzf := hA5.f
      have hzl := hA5.l
      clear hb hRR
      go_wp2
      exact bodyPost_ret (v := .tuple #[mtv q, .bool ok]) (by simp [results, Tryd.results23, go_sem, *]) rfl ⟨by rw [HV.out], by exact below_⟩
end Go.Proofs.YtalcjmefmffcnaaDoor
