/-
  The walks of FibreOrder of both, and of the statement that compares them: it returns true, for every list.
-/
import Derived.Test.YtiagnnmnaakmoaaDoorOc
import Derived.Test.YtiagnnmnaakmoaaDoorFm
import Derived.Test.YtiagnnmnaakmoaaDoorFn
import Derived.Test.YtiagnnmnaakmoaaDoorGc
import Derived.Test.YtiagnnmnaakmoaaDoorGa
namespace Go.Proofs.YtiagnnmnaakmoaaDoor
set_option linter.unusedSimpArgs false
set_option linter.unusedVariables false
open Go.RowKit
attribute [local go_sem ↓] Go.wp_at_zero Go.wp_at_succ
theorem inner_valid {p q r s h : Fr} (e : innerI p q r s = some h) : fvalid h = true := by
  unfold innerI at e
  cases hx : timesI p q with
  | none => rw [hx] at e; cases e
  | some x =>
    cases hy : timesI r s with
    | none => rw [hx, hy] at e; cases e
    | some y =>
      rw [hx, hy] at e
      have e2 : addI x y = some h := e
      have hv : fvalid x = true ∧ fvalid y = true := by
        unfold addI at e2
        split at e2
        · rename_i hh; simpa using hh
        · cases e2
      exact (val_add (rep_self hv.1) (rep_self hv.2) e2).ok
theorem mtimes_valid {m p q : Mt} (e : mtimesI m p = some q) : mvalid q = true := by
  unfold mtimesI at e
  split at e
  · obtain ⟨ha, hb, hc, hd⟩ := m4_some e
    simp [mvalid, inner_valid ha, inner_valid hb, inner_valid hc, inner_valid hd]
  · cases e
theorem ord_alike {m p : Mt} {k : Nat} (h : k ≤ 24) (ho : oneLike p = true) : ordL m (25 - k) k p = k := by
  obtain ⟨f, hf⟩ : ∃ f, 25 - k = f + 1 := ⟨24 - k, by omega⟩
  rw [hf, ordL, if_pos ho]
theorem ord_none {m p : Mt} {k : Nat} (h : k ≤ 24) (ho : oneLike p = false) (e : mtimesI m p = none) : ordL m (25 - k) k p = 0 := by
  obtain ⟨f, hf⟩ : ∃ f, 25 - k = f + 1 := ⟨24 - k, by omega⟩
  rw [hf, ordL, ho, e]
  rfl
theorem ord_some {m p q : Mt} {k : Nat} (h : k ≤ 24) (ho : oneLike p = false) (e : mtimesI m p = some q) : ordL m (25 - k) k p = ordL m (25 - (k + 1)) ((k + 1 : Nat) : Int) q := by
  obtain ⟨f, hf⟩ : ∃ f, 25 - k = f + 1 := ⟨24 - k, by omega⟩
  rw [hf, ordL, ho, e, show 25 - (k + 1) = f by omega]
  rfl
theorem matAlike_o (p : Mt) (b : Bool) (w : World) (hv : mvalid p = true) (hZ : GZ w) (h : Hid (oneLike p = b)) :
    Calls Tryd.prog 35 #[mtv p, mtv (⟨⟨1, 0, 1⟩, ⟨0, 0, 1⟩, ⟨0, 0, 1⟩, ⟨1, 0, 1⟩⟩ : Mt)] w fun e w' => e = .returned (.bool b) ∧ Below w.heap.size w w' := by rw [← h.out]; exact matAlike_v p w hv hZ
theorem dark_one {p : Mt} (h : darkB p = true) (hv : mvalid p = true) : oneLike p = false := by
  simp only [darkB, List.all_eq_true, List.mem_range, Bool.and_eq_true, beq_iff_eq] at h
  have h0 := h 0 (by omega)
  have r : (p.a == ⟨0, 0, 1⟩) = true := (rep_zero_iff (rep_self (mvalid_mf hv 0))).2 h0
  unfold oneLike
  rw [r]
  simp
theorem bright_a {p : Mt} (hv : mvalid p = true) (hc : crossB p (⟨⟨1, 0, 1⟩, ⟨0, 0, 1⟩, ⟨0, 0, 1⟩, ⟨1, 0, 1⟩⟩ : Mt) = true) (hd : darkB p = false) : (p.a == ⟨0, 0, 1⟩) = false := by
  rw [Bool.eq_false_iff]
  intro ha
  have h := hc
  rw [cross_one hv] at h
  simp only [Bool.and_eq_true, beq_iff_eq] at h
  obtain ⟨⟨h1, h2⟩, h3⟩ := h
  have ha2 := eq_of_beq ha
  clear ha hc
  obtain ⟨a, b, c, d⟩ := p
  simp only at h1 h2 h3 ha2
  subst h1 h2 h3 ha2
  revert hd
  decide
theorem smatAlike_o (p : Mt) (b : Bool) (w : World) (hv : mvalid p = true) (h : Hid (oneLike p = b)) :
    Calls Tryd.prog 33 #[mtv p, mtv (⟨⟨1, 0, 1⟩, ⟨0, 0, 1⟩, ⟨0, 0, 1⟩, ⟨1, 0, 1⟩⟩ : Mt)] w fun e w' => e = .returned (.bool b) ∧ Below w.heap.size w w' := by
  rw [← h.out]
  cases hd : darkB p
  · have e : oneLike p = crossB p (⟨⟨1, 0, 1⟩, ⟨0, 0, 1⟩, ⟨0, 0, 1⟩, ⟨1, 0, 1⟩⟩ : Mt) := by
      rw [oneLike_eq hv]
      cases hc : crossB p (⟨⟨1, 0, 1⟩, ⟨0, 0, 1⟩, ⟨0, 0, 1⟩, ⟨1, 0, 1⟩⟩ : Mt)
      · rfl
      · rw [bright_a hv hc hd]; rfl
    rw [e]
    exact smatAlike_c p w hv hd
  · rw [dark_one hd hv]
    exact smatAlike_d p w hv hd
abbrev ordV (o : Option Int) : Value := .tuple #[.int .i64 (o.getD 0), .bool o.isSome]
set_option maxRecDepth 100000 in
set_option maxHeartbeats 8000000 in
theorem order_any (A : Option Addr) (len cap : Nat) (xs : List Sec) (w : World) (h : Secs A len cap xs w) (hO : GO w) (hZ : GZ w) (hT : GT w) (hS : GS w) :
    Calls Tryd.prog 14 #[.slice A len cap] w fun e w' => e = .returned (ordV (fibOrderI xs)) ∧ Below w.heap.size w w' := by
  cases hx : fibMatI xs with
  | none =>
    rw [show fibOrderI xs = none by simp [fibOrderI, hx]]
    go_enter Tryd.func14, Tryd.ntmps14
    go_wp2_with (first | (go_at_call 16; (with_reducible refine (fibMat_o A len cap xs none _ h hO hZ hT hS hx).mono ?_); rintro e w1 ⟨rfl, hb⟩; obtain ⟨hc, hf⟩ := bf hb (w.heap.size) side_; have hs := hb.size; (try simp only [World.size_alloc, World.size_setCell, World.size_drew, World.heap_drewN] at hs); have hl : w.heap.size ≤ w1.heap.size := (by omega); obtain ⟨B, hBe, hBl, hc2, hf2⟩ := bfA hb; (try simp only [World.size_alloc, World.size_setCell, World.size_drew, World.heap_drewN] at hBe); have hB : Below w.heap.size w w1 := bstep (by exact below_) hb side_; clear hs hb))
    exact bodyPost_ret (v := ordV none) (by simp [results, Tryd.results14, go_sem, *]) rfl ⟨rfl, by exact below_⟩
  | some m =>
    have hmv : mvalid m = true := RM.valid (fib_rc hx)
    rw [show fibOrderI xs = some (ordL m 24 1 m) by simp [fibOrderI, hx]]
    obtain ⟨R, hR⟩ : ∃ R, R = ordL m 24 1 m := ⟨_, rfl⟩
    rw [← hR]
    have HR := Lib.hid hR
    have HX := Lib.hid hx
    clear hR hx
    go_enter Tryd.func14, Tryd.ntmps14
    go_wp2_with (go_at_call 16; (with_reducible refine (fibMat_o A len cap xs (some m) _ h hO hZ hT hS HX.out).mono ?_); rintro e w1 ⟨rfl, hb⟩; refine Hid.out ?_)
    refine Lib.hid ?_
    have hz1 := hb.size
    have hA0 : MtAt ((w1.alloc (.cells #[.int .i64 m.a.re, .int .i64 m.a.im, .int .i64 m.a.den, .int .i64 m.b.re, .int .i64 m.b.im, .int .i64 m.b.den, .int .i64 m.c.re, .int .i64 m.c.im, .int .i64 m.c.den, .int .i64 m.d.re, .int .i64 m.d.im, .int .i64 m.d.den] 44)).alloc (.cells #[.int .i64 m.a.re, .int .i64 m.a.im, .int .i64 m.a.den, .int .i64 m.b.re, .int .i64 m.b.im, .int .i64 m.b.den, .int .i64 m.c.re, .int .i64 m.c.im, .int .i64 m.c.den, .int .i64 m.d.re, .int .i64 m.d.im, .int .i64 m.d.den] 44)) w1.heap.size m := (MtAt.new w1 m _).alloc _
    have hP0 : MtAt ((w1.alloc (.cells #[.int .i64 m.a.re, .int .i64 m.a.im, .int .i64 m.a.den, .int .i64 m.b.re, .int .i64 m.b.im, .int .i64 m.b.den, .int .i64 m.c.re, .int .i64 m.c.im, .int .i64 m.c.den, .int .i64 m.d.re, .int .i64 m.d.im, .int .i64 m.d.den] 44)).alloc (.cells #[.int .i64 m.a.re, .int .i64 m.a.im, .int .i64 m.a.den, .int .i64 m.b.re, .int .i64 m.b.im, .int .i64 m.b.den, .int .i64 m.c.re, .int .i64 m.c.im, .int .i64 m.c.den, .int .i64 m.d.re, .int .i64 m.d.im, .int .i64 m.d.den] 44)) (w1.heap.size + 1) m := MtAt.new' (by simp) m _
    have hPf0 : FreeB ((w1.alloc (.cells #[.int .i64 m.a.re, .int .i64 m.a.im, .int .i64 m.a.den, .int .i64 m.b.re, .int .i64 m.b.im, .int .i64 m.b.den, .int .i64 m.c.re, .int .i64 m.c.im, .int .i64 m.c.den, .int .i64 m.d.re, .int .i64 m.d.im, .int .i64 m.d.den] 44)).alloc (.cells #[.int .i64 m.a.re, .int .i64 m.a.im, .int .i64 m.a.den, .int .i64 m.b.re, .int .i64 m.b.im, .int .i64 m.b.den, .int .i64 m.c.re, .int .i64 m.c.im, .int .i64 m.c.den, .int .i64 m.d.re, .int .i64 m.d.im, .int .i64 m.d.den] 44)) (w1.heap.size + 1) := by
      have := FreeB.new (w1.alloc (.cells #[.int .i64 m.a.re, .int .i64 m.a.im, .int .i64 m.a.den, .int .i64 m.b.re, .int .i64 m.b.im, .int .i64 m.b.den, .int .i64 m.c.re, .int .i64 m.c.im, .int .i64 m.c.den, .int .i64 m.d.re, .int .i64 m.d.im, .int .i64 m.d.den] 44)) #[.int .i64 m.a.re, .int .i64 m.a.im, .int .i64 m.a.den, .int .i64 m.b.re, .int .i64 m.b.im, .int .i64 m.b.den, .int .i64 m.c.re, .int .i64 m.c.im, .int .i64 m.c.den, .int .i64 m.d.re, .int .i64 m.d.im, .int .i64 m.d.den] 44
      simpa using this
    have hB0 : Below w.heap.size w ((w1.alloc (.cells #[.int .i64 m.a.re, .int .i64 m.a.im, .int .i64 m.a.den, .int .i64 m.b.re, .int .i64 m.b.im, .int .i64 m.b.den, .int .i64 m.c.re, .int .i64 m.c.im, .int .i64 m.c.den, .int .i64 m.d.re, .int .i64 m.d.im, .int .i64 m.d.den] 44)).alloc (.cells #[.int .i64 m.a.re, .int .i64 m.a.im, .int .i64 m.a.den, .int .i64 m.b.re, .int .i64 m.b.im, .int .i64 m.b.den, .int .i64 m.c.re, .int .i64 m.c.im, .int .i64 m.c.den, .int .i64 m.d.re, .int .i64 m.d.im, .int .i64 m.d.den] 44)) := (hb.alloc hz1 _).alloc (by simp; omega) _
    clear hb
    go_wp2
    obtain ⟨bm, hbm⟩ : ∃ bm, bm = w1.heap.size := ⟨_, rfl⟩
    rw [← hbm] at hA0 hP0 hPf0 ⊢
    have hbw : w.heap.size ≤ bm := by omega
    have HBM := Lib.hid hbm
    clear hbm hz1
    go_loopw [5, 7] (fun _ n wr => ∃ (k : Nat) (p : Mt), 1 ≤ k ∧ k ≤ 25 ∧ n = .int .i64 k ∧ Hid (ordL m (25 - k) k p = R) ∧ Hid (mvalid p = true) ∧ MtAt wr bm m ∧ MtAt wr (bm + 1) p ∧ FreeB wr (bm + 1) ∧ Below w.heap.size w wr) (fun _ n _ => 25 - (intOf n).toNat)
    case atStart => exact ⟨1, m, by omega, by omega, rfl, Lib.hid HR.out.symm, Lib.hid hmv, hA0, hP0, hPf0, hB0⟩
    case round =>
      clear hA0 hP0 hPf0 hB0
      obtain ⟨k, p, hk1, hk2, rfl, hord, hv, hA, hP, hPf, hB⟩ := hrel
      have hzB := hB.size
      have hlA := hA.lt
      have hlP := hP.lt
      rcases Nat.lt_or_ge k 25 with hk | hk
      · have hk0 : (k : Int) ≤ 24 := by omega
        obtain ⟨hgl, ⟨g0, g1, g2⟩, ⟨g3, g4, g5⟩, ⟨g6, g7, g8⟩, ⟨g9, g10, g11⟩⟩ := hS.below hB
        obtain ⟨p0, p1, p2, p3, p4, p5, p6, p7, p8, p9, p10, p11⟩ := id hP
        cases ho : oneLike p
        · have HO := Lib.hid ho
          clear ho
          go_wp2_with (go_at_call 35; (with_reducible refine (matAlike_o p false _ hv.out (hZ.below hB) HO).mono ?_); clear p0 p1 p2 p3 p4 p5 p6 p7 p8 p9 p10 p11 g0 g1 g2 g3 g4 g5 g6 g7 g8 g9 g10 g11 hgl; rintro e w2 ⟨rfl, hb⟩; refine Hid.out ?_)
          refine Lib.hid ?_
          have hA := hA.below hb hlA
          have hP := hP.below hb hlP
          have hPf := hPf.below hb hlP
          have hB := bstep hB hb hzB
          have hzB := hB.size
          have hlA := hA.lt
          have hlP := hP.lt
          clear hb
          obtain ⟨a0, a1, a2, a3, a4, a5, a6, a7, a8, a9, a10, a11⟩ := id hA
          obtain ⟨p0, p1, p2, p3, p4, p5, p6, p7, p8, p9, p10, p11⟩ := id hP
          cases hx2 : mtimesI m p with
          | none =>
            have HV := Lib.hid (ord_none (k := k) (by omega) HO.out hx2)
            go_wp2_with (go_at_call 36; (with_reducible refine (mtimes_o m p none _ hx2).mono ?_); clear p0 p1 p2 p3 p4 p5 p6 p7 p8 p9 p10 p11 a0 a1 a2 a3 a4 a5 a6 a7 a8 a9 a10 a11; rintro e w3 ⟨rfl, hb⟩; refine Hid.out ?_)
            refine Lib.hid ?_
            obtain ⟨p0, p1, p2, p3, p4, p5, p6, p7, p8, p9, p10, p11⟩ := hP.below hb hlP
            have hpf : ∀ o, w3.frozen? ⟨bm + 1, o, none⟩ = false := hPf.below hb hlP
            have hB := bstep hB hb hzB
            clear hb
            go_wp2
            have hR0 : R = 0 := by rw [← hord.out, HV.out]
            exact bodyPost_ret (v := ordV (some R)) (by simp [results, Tryd.results14, go_sem, *]) rfl ⟨rfl, by exact below_⟩
          | some q =>
            have HV := Lib.hid (ord_some (k := k) (by omega) HO.out hx2)
            have HQ := Lib.hid (mtimes_valid hx2)
            go_wp2_with (go_at_call 36; (with_reducible refine (mtimes_o m p (some q) _ hx2).mono ?_); clear p0 p1 p2 p3 p4 p5 p6 p7 p8 p9 p10 p11 a0 a1 a2 a3 a4 a5 a6 a7 a8 a9 a10 a11; rintro e w3 ⟨rfl, hb⟩; refine Hid.out ?_)
            refine Lib.hid ?_
            have hA := hA.below hb hlA
            have hP := hP.below hb hlP
            have hPf := hPf.below hb hlP
            have hB := bstep hB hb hzB
            obtain ⟨p0, p1, p2, p3, p4, p5, p6, p7, p8, p9, p10, p11⟩ := id hP
            have hpf : ∀ o, w3.frozen? ⟨bm + 1, o, none⟩ = false := hPf
            clear hb
            go_wp2
            go_roundw
            case rel => exact ⟨k + 1, q, by omega, by omega, by go_num, Lib.hid (HV.out.symm.trans hord.out), HQ, setM_far hA (by omega), setM_at hP, hPf.setM, setM_below hB (by omega)⟩
            case measure => simp [intOf]; omega
        · have HO := Lib.hid ho
          have HV := Lib.hid (ord_alike (m := m) (k := k) (by omega) ho)
          clear ho
          go_wp2_with (go_at_call 35; (with_reducible refine (matAlike_o p true _ hv.out (hZ.below hB) HO).mono ?_); rintro e w2 ⟨rfl, hb⟩; have hB2 : Below w.heap.size w w2 := bstep hB hb hzB; clear hb)
          have hR0 : R = k := by rw [← hord.out, HV.out]
          exact bodyPost_ret (v := ordV (some R)) (by simp [results, Tryd.results14, go_sem, *]) rfl ⟨rfl, by exact below_⟩
      · obtain rfl : k = 25 := by omega
        have hR0 : R = 0 := by rw [← hord.out]; rfl
        go_wp2
        exact bodyPost_ret (v := ordV (some R)) (by simp [results, Tryd.results14, go_sem, *]) rfl ⟨rfl, by exact below_⟩
set_option maxRecDepth 100000 in
set_option maxHeartbeats 8000000 in
theorem sorder_any (A : Option Addr) (len cap : Nat) (xs : List Sec) (w : World) (h : Secs A len cap xs w) :
    Calls Tryd.prog 13 #[.slice A len cap] w fun e w' => e = .returned (ordV (fibOrderI xs)) ∧ Below w.heap.size w w' := by
  cases hx : fibMatI xs with
  | none =>
    rw [show fibOrderI xs = none by simp [fibOrderI, hx]]
    go_enter Tryd.func13, Tryd.ntmps13
    go_wp2_with (first | (go_at_call 30; (with_reducible refine (sfibMat_o A len cap xs none _ h hx).mono ?_); rintro e w1 ⟨rfl, hb⟩; obtain ⟨hc, hf⟩ := bf hb (w.heap.size) side_; have hs := hb.size; (try simp only [World.size_alloc, World.size_setCell, World.size_drew, World.heap_drewN] at hs); have hl : w.heap.size ≤ w1.heap.size := (by omega); obtain ⟨B, hBe, hBl, hc2, hf2⟩ := bfA hb; (try simp only [World.size_alloc, World.size_setCell, World.size_drew, World.heap_drewN] at hBe); have hB : Below w.heap.size w w1 := bstep (by exact below_) hb side_; clear hs hb))
    exact bodyPost_ret (v := ordV none) (by simp [results, Tryd.results13, go_sem, *]) rfl ⟨rfl, by exact below_⟩
  | some m =>
    have hmv : mvalid m = true := RM.valid (fib_rc hx)
    rw [show fibOrderI xs = some (ordL m 24 1 m) by simp [fibOrderI, hx]]
    obtain ⟨R, hR⟩ : ∃ R, R = ordL m 24 1 m := ⟨_, rfl⟩
    rw [← hR]
    have HR := Lib.hid hR
    have HX := Lib.hid hx
    clear hR hx
    go_enter Tryd.func13, Tryd.ntmps13
    go_wp2_with (go_at_call 30; (with_reducible refine (sfibMat_o A len cap xs (some m) _ h HX.out).mono ?_); rintro e w1 ⟨rfl, hb⟩; refine Hid.out ?_)
    refine Lib.hid ?_
    have hz1 := hb.size
    have hA : MtAt (w1.alloc (.cells #[.int .i64 m.a.re, .int .i64 m.a.im, .int .i64 m.a.den, .int .i64 m.b.re, .int .i64 m.b.im, .int .i64 m.b.den, .int .i64 m.c.re, .int .i64 m.c.im, .int .i64 m.c.den, .int .i64 m.d.re, .int .i64 m.d.im, .int .i64 m.d.den] 44)) w1.heap.size m := MtAt.new w1 m _
    have hB : Below w.heap.size w (w1.alloc (.cells #[.int .i64 m.a.re, .int .i64 m.a.im, .int .i64 m.a.den, .int .i64 m.b.re, .int .i64 m.b.im, .int .i64 m.b.den, .int .i64 m.c.re, .int .i64 m.c.im, .int .i64 m.c.den, .int .i64 m.d.re, .int .i64 m.d.im, .int .i64 m.d.den] 44)) := hb.alloc hz1 _
    clear hb
    have hlA := hA.lt
    go_wp2_with (go_at_call 32; (with_reducible refine (sphase_any 0 _ (by decide) (by decide)).mono ?_); rintro e w2 ⟨rfl, hb⟩; refine Hid.out ?_)
    refine Lib.hid ?_
    have hA := hA.below hb hlA
    have hB := bstep hB hb hB.size
    obtain ⟨bm, hbm⟩ : ∃ bm, bm = w1.heap.size := ⟨_, rfl⟩
    rw [← hbm] at hA ⊢
    have hbw : w.heap.size ≤ bm := by omega
    have hlA := hA.lt
    clear hb hbm hz1
    go_wp2_with (go_at_call 32; (with_reducible refine (sphase_any 0 _ (by decide) (by decide)).mono ?_); rintro e w3 ⟨rfl, hb⟩; refine Hid.out ?_)
    refine Lib.hid ?_
    have hA := hA.below hb hlA
    have hB := bstep hB hb hB.size
    have hlA := hA.lt
    clear hb
    go_wp2_with (go_at_call 31; (with_reducible refine (sone_00 _).mono ?_); rintro e w4 ⟨rfl, hb⟩; refine Hid.out ?_)
    refine Lib.hid ?_
    have hA := hA.below hb hlA
    have hB := bstep hB hb hB.size
    have hzB := hB.size
    have hlA := hA.lt
    clear hb
    have hA := hA.alloc (.cells #[.int .i64 oneM.a.re, .int .i64 oneM.a.im, .int .i64 oneM.a.den, .int .i64 oneM.b.re, .int .i64 oneM.b.im, .int .i64 oneM.b.den, .int .i64 oneM.c.re, .int .i64 oneM.c.im, .int .i64 oneM.c.den, .int .i64 oneM.d.re, .int .i64 oneM.d.im, .int .i64 oneM.d.den] 44)
    obtain ⟨a0, a1, a2, a3, a4, a5, a6, a7, a8, a9, a10, a11⟩ := id hA
    have hO0 : MtAt ((w4.alloc (.cells #[.int .i64 oneM.a.re, .int .i64 oneM.a.im, .int .i64 oneM.a.den, .int .i64 oneM.b.re, .int .i64 oneM.b.im, .int .i64 oneM.b.den, .int .i64 oneM.c.re, .int .i64 oneM.c.im, .int .i64 oneM.c.den, .int .i64 oneM.d.re, .int .i64 oneM.d.im, .int .i64 oneM.d.den] 44)).alloc (.cells #[.int .i64 m.a.re, .int .i64 m.a.im, .int .i64 m.a.den, .int .i64 m.b.re, .int .i64 m.b.im, .int .i64 m.b.den, .int .i64 m.c.re, .int .i64 m.c.im, .int .i64 m.c.den, .int .i64 m.d.re, .int .i64 m.d.im, .int .i64 m.d.den] 44)) w4.heap.size oneM := (MtAt.new w4 oneM _).alloc _
    have hA0 := hA.alloc (.cells #[.int .i64 m.a.re, .int .i64 m.a.im, .int .i64 m.a.den, .int .i64 m.b.re, .int .i64 m.b.im, .int .i64 m.b.den, .int .i64 m.c.re, .int .i64 m.c.im, .int .i64 m.c.den, .int .i64 m.d.re, .int .i64 m.d.im, .int .i64 m.d.den] 44)
    have hP0 : MtAt ((w4.alloc (.cells #[.int .i64 oneM.a.re, .int .i64 oneM.a.im, .int .i64 oneM.a.den, .int .i64 oneM.b.re, .int .i64 oneM.b.im, .int .i64 oneM.b.den, .int .i64 oneM.c.re, .int .i64 oneM.c.im, .int .i64 oneM.c.den, .int .i64 oneM.d.re, .int .i64 oneM.d.im, .int .i64 oneM.d.den] 44)).alloc (.cells #[.int .i64 m.a.re, .int .i64 m.a.im, .int .i64 m.a.den, .int .i64 m.b.re, .int .i64 m.b.im, .int .i64 m.b.den, .int .i64 m.c.re, .int .i64 m.c.im, .int .i64 m.c.den, .int .i64 m.d.re, .int .i64 m.d.im, .int .i64 m.d.den] 44)) (w4.heap.size + 1) m := MtAt.new' (by simp) m _
    have hPf0 : FreeB ((w4.alloc (.cells #[.int .i64 oneM.a.re, .int .i64 oneM.a.im, .int .i64 oneM.a.den, .int .i64 oneM.b.re, .int .i64 oneM.b.im, .int .i64 oneM.b.den, .int .i64 oneM.c.re, .int .i64 oneM.c.im, .int .i64 oneM.c.den, .int .i64 oneM.d.re, .int .i64 oneM.d.im, .int .i64 oneM.d.den] 44)).alloc (.cells #[.int .i64 m.a.re, .int .i64 m.a.im, .int .i64 m.a.den, .int .i64 m.b.re, .int .i64 m.b.im, .int .i64 m.b.den, .int .i64 m.c.re, .int .i64 m.c.im, .int .i64 m.c.den, .int .i64 m.d.re, .int .i64 m.d.im, .int .i64 m.d.den] 44)) (w4.heap.size + 1) := by
      have := FreeB.new (w4.alloc (.cells #[.int .i64 oneM.a.re, .int .i64 oneM.a.im, .int .i64 oneM.a.den, .int .i64 oneM.b.re, .int .i64 oneM.b.im, .int .i64 oneM.b.den, .int .i64 oneM.c.re, .int .i64 oneM.c.im, .int .i64 oneM.c.den, .int .i64 oneM.d.re, .int .i64 oneM.d.im, .int .i64 oneM.d.den] 44)) #[.int .i64 m.a.re, .int .i64 m.a.im, .int .i64 m.a.den, .int .i64 m.b.re, .int .i64 m.b.im, .int .i64 m.b.den, .int .i64 m.c.re, .int .i64 m.c.im, .int .i64 m.c.den, .int .i64 m.d.re, .int .i64 m.d.im, .int .i64 m.d.den] 44
      simpa using this
    have hB0 : Below w.heap.size w ((w4.alloc (.cells #[.int .i64 oneM.a.re, .int .i64 oneM.a.im, .int .i64 oneM.a.den, .int .i64 oneM.b.re, .int .i64 oneM.b.im, .int .i64 oneM.b.den, .int .i64 oneM.c.re, .int .i64 oneM.c.im, .int .i64 oneM.c.den, .int .i64 oneM.d.re, .int .i64 oneM.d.im, .int .i64 oneM.d.den] 44)).alloc (.cells #[.int .i64 m.a.re, .int .i64 m.a.im, .int .i64 m.a.den, .int .i64 m.b.re, .int .i64 m.b.im, .int .i64 m.b.den, .int .i64 m.c.re, .int .i64 m.c.im, .int .i64 m.c.den, .int .i64 m.d.re, .int .i64 m.d.im, .int .i64 m.d.den] 44)) := (hB.alloc hzB _).alloc (by simp; omega) _
    clear hA hB
    go_wp2
    obtain ⟨bo, hbo⟩ : ∃ bo, bo = w4.heap.size := ⟨_, rfl⟩
    rw [← hbo] at hO0 hP0 hPf0 ⊢
    have hbow : w.heap.size ≤ bo := by omega
    have hbmo : bm < bo := by omega
    clear a0 a1 a2 a3 a4 a5 a6 a7 a8 a9 a10 a11 hbo hzB hlA
    go_loopw [8, 9, 10] (fun n _ _ wr => ∃ (k : Nat) (p : Mt), 1 ≤ k ∧ k ≤ 25 ∧ n = .int .i64 k ∧ Hid (ordL m (25 - k) k p = R) ∧ Hid (mvalid p = true) ∧ MtAt wr bm m ∧ MtAt wr bo oneM ∧ MtAt wr (bo + 1) p ∧ FreeB wr (bo + 1) ∧ Below w.heap.size w wr) (fun n _ _ _ => 25 - (intOf n).toNat)
    case atStart => exact ⟨1, m, by omega, by omega, rfl, Lib.hid HR.out.symm, Lib.hid hmv, hA0, hO0, hP0, hPf0, hB0⟩
    case round =>
      clear hA0 hO0 hP0 hPf0 hB0
      obtain ⟨k, p, hk1, hk2, rfl, hord, hv, hA, hO, hP, hPf, hB⟩ := hrel
      have hzB := hB.size
      have hlA := hA.lt
      have hlO := hO.lt
      have hlP := hP.lt
      rcases Nat.lt_or_ge k 25 with hk | hk
      · have hk0 : (k : Int) ≤ 24 := by omega
        have hO1 : MtAt wr bo (⟨⟨1, 0, 1⟩, ⟨0, 0, 1⟩, ⟨0, 0, 1⟩, ⟨1, 0, 1⟩⟩ : Mt) := hO
        obtain ⟨g0, g1, g2, g3, g4, g5, g6, g7, g8, g9, g10, g11⟩ := hO1
        obtain ⟨p0, p1, p2, p3, p4, p5, p6, p7, p8, p9, p10, p11⟩ := id hP
        cases ho : oneLike p
        · have HO := Lib.hid ho
          clear ho
          go_wp2_with (go_at_call 33; (with_reducible refine (smatAlike_o p false _ hv.out HO).mono ?_); clear p0 p1 p2 p3 p4 p5 p6 p7 p8 p9 p10 p11 g0 g1 g2 g3 g4 g5 g6 g7 g8 g9 g10 g11; rintro e w5 ⟨rfl, hb⟩; refine Hid.out ?_)
          refine Lib.hid ?_
          have hA := hA.below hb hlA
          have hO := hO.below hb hlO
          have hP := hP.below hb hlP
          have hPf := hPf.below hb hlP
          have hB := bstep hB hb hzB
          have hzB := hB.size
          have hlA := hA.lt
          have hlO := hO.lt
          have hlP := hP.lt
          clear hb
          obtain ⟨a0, a1, a2, a3, a4, a5, a6, a7, a8, a9, a10, a11⟩ := id hA
          obtain ⟨p0, p1, p2, p3, p4, p5, p6, p7, p8, p9, p10, p11⟩ := id hP
          cases hx2 : mtimesI m p with
          | none =>
            have HV := Lib.hid (ord_none (k := k) (by omega) HO.out hx2)
            have hR0 : R = 0 := by rw [← hord.out, HV.out]
            go_wp2_with (go_at_call 34; (with_reducible refine (smtimes_o m p none _ hx2).mono ?_); clear p0 p1 p2 p3 p4 p5 p6 p7 p8 p9 p10 p11 a0 a1 a2 a3 a4 a5 a6 a7 a8 a9 a10 a11; rintro e w6 ⟨rfl, hb⟩; refine Hid.out ?_)
            refine Lib.hid ?_
            have hB := bstep hB hb hzB
            have hzB := hB.size
            clear hb
            go_wp2
            exact bodyPost_ret (v := ordV (some R)) (by simp [results, Tryd.results13, go_sem, *]) rfl ⟨rfl, by exact below_⟩
          | some q =>
            have HV := Lib.hid (ord_some (k := k) (by omega) HO.out hx2)
            have HQ := Lib.hid (mtimes_valid hx2)
            go_wp2_with (go_at_call 34; (with_reducible refine (smtimes_o m p (some q) _ hx2).mono ?_); clear p0 p1 p2 p3 p4 p5 p6 p7 p8 p9 p10 p11 a0 a1 a2 a3 a4 a5 a6 a7 a8 a9 a10 a11; rintro e w6 ⟨rfl, hb⟩; refine Hid.out ?_)
            refine Lib.hid ?_
            have hA := (hA.below hb hlA).alloc (.cells #[.int .i64 q.a.re, .int .i64 q.a.im, .int .i64 q.a.den, .int .i64 q.b.re, .int .i64 q.b.im, .int .i64 q.b.den, .int .i64 q.c.re, .int .i64 q.c.im, .int .i64 q.c.den, .int .i64 q.d.re, .int .i64 q.d.im, .int .i64 q.d.den] 44)
            have hO := (hO.below hb hlO).alloc (.cells #[.int .i64 q.a.re, .int .i64 q.a.im, .int .i64 q.a.den, .int .i64 q.b.re, .int .i64 q.b.im, .int .i64 q.b.den, .int .i64 q.c.re, .int .i64 q.c.im, .int .i64 q.c.den, .int .i64 q.d.re, .int .i64 q.d.im, .int .i64 q.d.den] 44)
            have hPf := (hPf.below hb hlP).alloc (hP.below hb hlP).lt (.cells #[.int .i64 q.a.re, .int .i64 q.a.im, .int .i64 q.a.den, .int .i64 q.b.re, .int .i64 q.b.im, .int .i64 q.b.den, .int .i64 q.c.re, .int .i64 q.c.im, .int .i64 q.c.den, .int .i64 q.d.re, .int .i64 q.d.im, .int .i64 q.d.den] 44)
            have hP := (hP.below hb hlP).alloc (.cells #[.int .i64 q.a.re, .int .i64 q.a.im, .int .i64 q.a.den, .int .i64 q.b.re, .int .i64 q.b.im, .int .i64 q.b.den, .int .i64 q.c.re, .int .i64 q.c.im, .int .i64 q.c.den, .int .i64 q.d.re, .int .i64 q.d.im, .int .i64 q.d.den] 44)
            have hB := bstep hB hb hzB
            have hzB := hB.size
            have hB := hB.alloc hzB (.cells #[.int .i64 q.a.re, .int .i64 q.a.im, .int .i64 q.a.den, .int .i64 q.b.re, .int .i64 q.b.im, .int .i64 q.b.den, .int .i64 q.c.re, .int .i64 q.c.im, .int .i64 q.c.den, .int .i64 q.d.re, .int .i64 q.d.im, .int .i64 q.d.den] 44)
            obtain ⟨p0, p1, p2, p3, p4, p5, p6, p7, p8, p9, p10, p11⟩ := id hP
            have hpf : ∀ o, (w6.alloc (.cells #[.int .i64 q.a.re, .int .i64 q.a.im, .int .i64 q.a.den, .int .i64 q.b.re, .int .i64 q.b.im, .int .i64 q.b.den, .int .i64 q.c.re, .int .i64 q.c.im, .int .i64 q.c.den, .int .i64 q.d.re, .int .i64 q.d.im, .int .i64 q.d.den] 44)).frozen? ⟨bo + 1, o, none⟩ = false := hPf
            clear hb
            go_wp2
            go_roundw
            case rel => exact ⟨k + 1, q, by omega, by omega, by go_num, Lib.hid (HV.out.symm.trans hord.out), HQ, setM_far hA (by omega), setM_far hO (by omega), setM_at hP, hPf.setM, setM_below hB (by omega)⟩
            case measure => simp [intOf]; omega
        · have HO := Lib.hid ho
          have HV := Lib.hid (ord_alike (m := m) (k := k) (by omega) ho)
          clear ho
          go_wp2_with (go_at_call 33; (with_reducible refine (smatAlike_o p true _ hv.out HO).mono ?_); rintro e w5 ⟨rfl, hb⟩; have hB2 : Below w.heap.size w w5 := bstep hB hb hzB; clear hb)
          have hR0 : R = k := by rw [← hord.out, HV.out]
          exact bodyPost_ret (v := ordV (some R)) (by simp [results, Tryd.results13, go_sem, *]) rfl ⟨rfl, by exact below_⟩
      · obtain rfl : k = 25 := by omega
        have hR0 : R = 0 := by rw [← hord.out]; rfl
        go_wp2
        exact bodyPost_ret (v := ordV (some R)) (by simp [results, Tryd.results13, go_sem, *]) rfl ⟨rfl, by exact below_⟩
theorem order_m (A : Option Addr) (len cap : Nat) (xs : List Sec) (n : Int) (b : Bool) (w : World) (h : Secs A len cap xs w) (hO : GO w) (hZ : GZ w) (hT : GT w) (hS : GS w) (e : Hid (ordV (fibOrderI xs) = .tuple #[.int .i64 n, .bool b])) :
    Calls Tryd.prog 14 #[.slice A len cap] w fun e w' => e = .returned (.tuple #[.int .i64 n, .bool b]) ∧ Below w.heap.size w w' := by rw [← e.out]; exact order_any A len cap xs w h hO hZ hT hS
theorem sorder_m (A : Option Addr) (len cap : Nat) (xs : List Sec) (n : Int) (b : Bool) (w : World) (h : Secs A len cap xs w) (e : Hid (ordV (fibOrderI xs) = .tuple #[.int .i64 n, .bool b])) :
    Calls Tryd.prog 13 #[.slice A len cap] w fun e w' => e = .returned (.tuple #[.int .i64 n, .bool b]) ∧ Below w.heap.size w w' := by rw [← e.out]; exact sorder_any A len cap xs w h
set_option maxRecDepth 100000 in
set_option maxHeartbeats 4000000 in
theorem fnExactFibreOrder_walk (A : Option Addr) (len cap : Nat) (xs : List Sec) (w : World) (hS0 : Secs A len cap xs w) (hGO : GO w) (hGZ : GZ w) (hGT : GT w) (hGS : GS w) :
    Calls Tryd.prog 4 #[.slice A len cap] w fun e w' => e = .returned (.bool true) ∧ Below w.heap.size w w' := by
  have hcap := hS0.2.2.1
  have hlc := hS0.2.1
  obtain ⟨n, hn⟩ : ∃ n, n = (fibOrderI xs).getD 0 := ⟨_, rfl⟩
  obtain ⟨b, hb0⟩ : ∃ b, b = (fibOrderI xs).isSome := ⟨_, rfl⟩
  have HC := Lib.hid (show ordV (fibOrderI xs) = .tuple #[.int .i64 n, .bool b] by rw [hn, hb0])
  clear hn hb0
  by_cases hbig : 1048576 < len
  · go_enter Tryd.func4, Tryd.ntmps4
    go_wp2_with (go_at_call 7; (with_reducible refine (sz_far A len cap _ hbig (by omega)).mono ?_); rintro e w1 ⟨rfl, hb⟩)
    go_ret
    exact ⟨rfl, hb⟩
  have hlen : len ≤ 1048576 := by omega
  clear hbig
  go_enter Tryd.func4, Tryd.ntmps4
  go_wp2_with (go_at_call 7; (with_reducible refine (sz_any A len cap 1048576 _ (by omega) (by omega)).mono ?_); rintro e w1 ⟨rfl, hb⟩; refine Hid.out ?_)
  refine Lib.hid ?_
  have hB := hb
  clear hb
  go_wp2_with (go_at_call 9; (with_reducible refine (toSecs_any A len cap xs _ (hS0.below hB) hlen).mono ?_); rintro e w2 ⟨va, rfl, Oa, hb⟩; refine Hid.out ?_)
  refine Lib.hid ?_
  have hB : Below w.heap.size w w2 := bstep hB hb hB.size
  obtain ⟨A1, c1, rfl, -⟩ := Oa.secs
  clear hb
  go_wp2_with (go_at_call 13; (with_reducible refine (sorder_m A1 _ c1 xs n b _ Oa.read HC).mono ?_); rintro e w3 ⟨rfl, hb⟩; refine Hid.out ?_)
  refine Lib.hid ?_
  have hB : Below w.heap.size w w3 := bstep hB hb hB.size
  clear hb Oa
  go_wp2_with (go_at_call 9; (with_reducible refine (toSecs_any A len cap xs _ (hS0.below hB) hlen).mono ?_); rintro e w4 ⟨vx, rfl, Ox, hb⟩; refine Hid.out ?_)
  refine Lib.hid ?_
  have hB : Below w.heap.size w w4 := bstep hB hb hB.size
  obtain ⟨A2, c2, rfl, -⟩ := Ox.secs
  clear hb
  go_wp2_with (go_at_call 14; (with_reducible refine (order_m A2 _ c2 xs n b _ Ox.read (hGO.below hB) (hGZ.below hB) (hGT.below hB) (hGS.below hB) HC).mono ?_); rintro e w5 ⟨rfl, hb⟩; refine Hid.out ?_)
  refine Lib.hid ?_
  have Ox := Ox.below hb
  have hB : Below w.heap.size w w5 := bstep hB hb hB.size
  clear hb
  go_wp2_with (go_at_call 9; (with_reducible refine (toSecs_any A len cap xs _ (hS0.below hB) hlen).mono ?_); rintro e w9 ⟨vy, rfl, Oy, hb⟩; refine Hid.out ?_)
  refine Lib.hid ?_
  have Ox := Ox.below hb
  have hB : Below w.heap.size w w9 := bstep hB hb hB.size
  obtain ⟨A3, c3, rfl, -⟩ := Oy.secs
  clear hb
  go_wp2_with (go_at_call 12; (with_reducible refine (eqSecs_refl A2 A3 _ c2 c3 _ _ Ox.read Oy.read).mono ?_); rintro e w10 ⟨rfl, hb⟩; have hB10 : Below w.heap.size w w10 := bstep hB hb hB.size; clear hb)
  go_ret
  exact ⟨rfl, by exact below_⟩
end Go.Proofs.YtiagnnmnaakmoaaDoor
