/-
  The walk of the matrix of a fibre (program).
-/
import Derived.Test.YtiagnnmnaakmoaaDoorFx
import Derived.Test.YtiagnnmnaakmoaaDoorNf
namespace Go.Proofs.YtiagnnmnaakmoaaDoor
set_option linter.unusedSimpArgs false
set_option linter.unusedVariables false
open Go.RowKit
attribute [local go_sem ↓] Go.wp_at_zero Go.wp_at_succ
theorem gs_at {w : World} (h : GS w) : MtAt w 0 oneM := by
  obtain ⟨⟨a0, a1, a2⟩, ⟨b0, b1, b2⟩, ⟨c0, c1, c2⟩, ⟨d0, d1, d2⟩⟩ := h.val
  exact ⟨a0, a1, a2, b0, b1, b2, c0, c1, c2, d0, d1, d2⟩
theorem fibOk_sec {xs : List Sec} {s : Sec} (h : fibOk xs = true) (hs : s ∈ xs) : dirOk s.p s.q = true ∧ inB s.ph 0 3 = true ∧ 0 ≤ s.t ∧ s.t ≤ 50 := by
  have h1 : secOk s = true := by
    have := h
    simp only [fibOk, Bool.and_eq_true] at this
    exact List.all_eq_true.1 this.1 s hs
  simp only [secOk, Bool.and_eq_true] at h1
  exact ⟨h1.1.1, h1.1.2, inB_iff.1 h1.2⟩
theorem plate_o (p q k : Int) (m : Mt) (w : World) (hO : GO w) (hZ : GZ w) (hT : GT w) (h : plateI p q k = some m) : Calls Tryd.prog 40 #[.int .i64 p, .int .i64 q, .int .i64 k] w fun e w' => e = .returned (mtb (some m)) ∧ Below w.heap.size w w' := by
  rw [← h]; exact plate_any p q k w hO hZ hT
set_option maxRecDepth 100000 in
set_option maxHeartbeats 4000000 in
theorem fibMat_any (A : Option Addr) (len cap : Nat) (xs : List Sec) (w : World) (h : Secs A len cap xs w) (hO : GO w) (hZ : GZ w) (hT : GT w) (hS : GS w) :
    Calls Tryd.prog 16 #[.slice A len cap] w fun e w' => e = .returned (mtb (fibMatI xs)) ∧ Below w.heap.size w w' := by
  have hV : ∀ w1, Below w.heap.size w w1 → Secs A len cap xs w1 := fun w1 hb => h.below hb
  have hgs := hS.lts
  cases hf : fibOk xs
  · rw [show fibMatI xs = none by simp [fibMatI, hf]]
    go_enter Tryd.func16, Tryd.ntmps16
    go_wp2_with (first | (go_at_call 39; (with_reducible refine (fibValid_f A len cap xs _ (hV _ (by exact below_)) hf).mono ?_); rintro e w1 ⟨rfl, hb⟩; obtain ⟨hc, hf⟩ := bf hb (w.heap.size + 1) side_; have hs := hb.size; (try simp only [World.size_alloc, World.size_setCell, World.size_drew, World.heap_drewN] at hs); have hl : w.heap.size ≤ w1.heap.size ∧ w.heap.size < w1.heap.size := ⟨by omega, by omega⟩; obtain ⟨B, hBe, hBl, hc2, hf2⟩ := bfA hb; (try simp only [World.size_alloc, World.size_setCell, World.size_drew, World.heap_drewN] at hBe); have hB : Below w.heap.size w w1 := bstep (by exact below_) hb side_; clear hs hb))
    exact bodyPost_ret (v := mtb none) (by simp [results, Tryd.results16, go_sem, *]) rfl ⟨rfl, by exact below_⟩
  · have hl8 := fibOk_len hf
    have hxl := h.1
    have hl := h.2.1
    have hm := h.2.2.1
    have hl9 : len ≤ 8 := by omega
    go_enter Tryd.func16, Tryd.ntmps16
    go_wp2_with (go_at_call 39; (with_reducible refine (fibValid_t A len cap xs _ (hV _ (by exact below_)) hf).mono ?_); rintro e w1 ⟨rfl, hb⟩; refine Hid.out ?_)
    refine Lib.hid ?_
    have hz1 := hb.size
    simp only [World.size_alloc] at hz1
    have hB1 : Below w.heap.size w w1 := bstep (by exact below_) hb (by simp)
    have hRz : MtAt w1 w.heap.size zM := (MtAt.new w zM 44).below hb (by simp)
    have hRf : FreeB w1 w.heap.size := (FreeB.new w _ _).below hb (by simp)
    have hS1 := gs_at (hS.below hB1)
    obtain ⟨gs0, gs1, gs2, gs3, gs4, gs5, gs6, gs7, gs8, gs9, gs10, gs11⟩ := hS1
    have HXL := Lib.hid hxl
    clear hxl hb hl8
    go_wp2
    have hA0 : MtAt (w1.alloc (.cells #[.int .i64 oneM.a.re, .int .i64 oneM.a.im, .int .i64 oneM.a.den, .int .i64 oneM.b.re, .int .i64 oneM.b.im, .int .i64 oneM.b.den, .int .i64 oneM.c.re, .int .i64 oneM.c.im, .int .i64 oneM.c.den, .int .i64 oneM.d.re, .int .i64 oneM.d.im, .int .i64 oneM.d.den] 44)) w1.heap.size oneM := MtAt.new w1 oneM _
    have hAf0 : FreeB (w1.alloc (.cells #[.int .i64 oneM.a.re, .int .i64 oneM.a.im, .int .i64 oneM.a.den, .int .i64 oneM.b.re, .int .i64 oneM.b.im, .int .i64 oneM.b.den, .int .i64 oneM.c.re, .int .i64 oneM.c.im, .int .i64 oneM.c.den, .int .i64 oneM.d.re, .int .i64 oneM.d.im, .int .i64 oneM.d.den] 44)) w1.heap.size := FreeB.new w1 _ _
    have hR0 := hRz.alloc (.cells #[.int .i64 oneM.a.re, .int .i64 oneM.a.im, .int .i64 oneM.a.den, .int .i64 oneM.b.re, .int .i64 oneM.b.im, .int .i64 oneM.b.den, .int .i64 oneM.c.re, .int .i64 oneM.c.im, .int .i64 oneM.c.den, .int .i64 oneM.d.re, .int .i64 oneM.d.im, .int .i64 oneM.d.den] 44)
    have hRf0 := hRf.alloc (by omega) (.cells #[.int .i64 oneM.a.re, .int .i64 oneM.a.im, .int .i64 oneM.a.den, .int .i64 oneM.b.re, .int .i64 oneM.b.im, .int .i64 oneM.b.den, .int .i64 oneM.c.re, .int .i64 oneM.c.im, .int .i64 oneM.c.den, .int .i64 oneM.d.re, .int .i64 oneM.d.im, .int .i64 oneM.d.den] 44)
    have hB0 : Below w.heap.size w (w1.alloc (.cells #[.int .i64 oneM.a.re, .int .i64 oneM.a.im, .int .i64 oneM.a.den, .int .i64 oneM.b.re, .int .i64 oneM.b.im, .int .i64 oneM.b.den, .int .i64 oneM.c.re, .int .i64 oneM.c.im, .int .i64 oneM.c.den, .int .i64 oneM.d.re, .int .i64 oneM.d.im, .int .i64 oneM.d.den] 44)) := hB1.alloc (by omega) _
    obtain ⟨ba, hba⟩ : ∃ ba, ba = w1.heap.size := ⟨_, rfl⟩
    rw [← hba] at hA0 hAf0 ⊢
    have hbaR : w.heap.size < ba := by omega
    have hbw1 : ba ≤ w1.heap.size := by omega
    have HBA := Lib.hid hba
    clear hba
    clear hRz hRf gs0 gs1 gs2 gs3 gs4 gs5 gs6 gs7 gs8 gs9 gs10 gs11
    go_loopw [6, 7, 8, 9, 10, 18] (fun _ _ _ _ _ i wr => ∃ (k : Nat) (m : Mt), k ≤ len ∧ i = .int .i64 k ∧ Hid (fibK xs k = some m) ∧ MtAt wr ba m ∧ MtAt wr w.heap.size zM ∧ FreeB wr ba ∧ FreeB wr w.heap.size ∧ Below w.heap.size w wr) (fun _ _ _ _ _ i _ => len - (intOf i).toNat)
    case atStart => exact ⟨0, oneM, Nat.zero_le _, rfl, rfl, hA0, hR0, hAf0, hRf0, hB0⟩
    case round =>
      clear hA0 hR0 hAf0 hRf0 hB0
      obtain ⟨k, m, hk, rfl, hfk, hA, hR, hAf, hRf, hb⟩ := hrel
      have hz := hb.size
      have hlta := hA.lt
      have hltr := hR.lt
      by_cases hkl : k < len
      · obtain ⟨b1, o1, s, rfl, hlt1, hs1, hc1⟩ := h.at hb hkl
        have hok := fibOk_sec hf (List.mem_of_getElem? hs1)
        obtain ⟨d1, d2, t0, t1⟩ := hok
        obtain ⟨pa, pl, e1, e2⟩ := plate_some d1 d2
        have HPL := Lib.hid (show plateI s.p s.q s.ph = some pl by simp [plateI, d1, d2, e1, e2])
        obtain ⟨tn, htn⟩ := Int.eq_ofNat_of_zero_le t0
        have HTN := Lib.hid (show s.t.toNat = tn by omega)
        obtain ⟨c0, c1, c2, c3⟩ := hc1
        rw [htn] at c3
        have htn50 : tn ≤ 50 := by omega
        have HS1 := Lib.hid hs1
        clear hs1 e1 e2 htn t0 t1 d1 d2
        go_wp2_with (go_at_call 40; (with_reducible refine (plate_o s.p s.q s.ph pl _ (hO.below (by exact below_)) (hZ.below (by exact below_)) (hT.below (by exact below_)) HPL.out).mono ?_); rintro e w2 ⟨rfl, hb2⟩; refine Hid.out ?_)
        refine Lib.hid ?_
        have hz2 := hb2.size
        simp only [World.size_alloc] at hz2
        have hB2 : Below w.heap.size w w2 := bstep (by exact below_) hb2 (by simp; omega)
        have hA2 := (hA.alloc (.cells #[.int .i64 s.p, .int .i64 s.q, .int .i64 s.ph, .int .i64 tn] 59)).below hb2 (by simp; omega)
        have hR2 := (hR.alloc (.cells #[.int .i64 s.p, .int .i64 s.q, .int .i64 s.ph, .int .i64 tn] 59)).below hb2 (by simp; omega)
        have hAf2 := (hAf.alloc hlta (.cells #[.int .i64 s.p, .int .i64 s.q, .int .i64 s.ph, .int .i64 tn] 59)).below hb2 (by simp; omega)
        have hRf2 := (hRf.alloc hltr (.cells #[.int .i64 s.p, .int .i64 s.q, .int .i64 s.ph, .int .i64 tn] 59)).below hb2 (by simp; omega)
        have hs6 : w2.cell? ⟨wr.heap.size, 3, none⟩ = some (.int .i64 tn) := (hb2.cell (p := ⟨wr.heap.size, 3, none⟩) (by simp)).trans (World.cell?_alloc_at _ _ _ _ rfl)
        clear hb2 c0 c1 c2 c3 hA hR hAf hRf
        have hA3 := hA2.alloc (.cells #[.int .i64 pl.a.re, .int .i64 pl.a.im, .int .i64 pl.a.den, .int .i64 pl.b.re, .int .i64 pl.b.im, .int .i64 pl.b.den, .int .i64 pl.c.re, .int .i64 pl.c.im, .int .i64 pl.c.den, .int .i64 pl.d.re, .int .i64 pl.d.im, .int .i64 pl.d.den] 44)
        have hR3 := hR2.alloc (.cells #[.int .i64 pl.a.re, .int .i64 pl.a.im, .int .i64 pl.a.den, .int .i64 pl.b.re, .int .i64 pl.b.im, .int .i64 pl.b.den, .int .i64 pl.c.re, .int .i64 pl.c.im, .int .i64 pl.c.den, .int .i64 pl.d.re, .int .i64 pl.d.im, .int .i64 pl.d.den] 44)
        have hAf3 := hAf2.alloc (by omega) (.cells #[.int .i64 pl.a.re, .int .i64 pl.a.im, .int .i64 pl.a.den, .int .i64 pl.b.re, .int .i64 pl.b.im, .int .i64 pl.b.den, .int .i64 pl.c.re, .int .i64 pl.c.im, .int .i64 pl.c.den, .int .i64 pl.d.re, .int .i64 pl.d.im, .int .i64 pl.d.den] 44)
        have hRf3 := hRf2.alloc (by omega) (.cells #[.int .i64 pl.a.re, .int .i64 pl.a.im, .int .i64 pl.a.den, .int .i64 pl.b.re, .int .i64 pl.b.im, .int .i64 pl.b.den, .int .i64 pl.c.re, .int .i64 pl.c.im, .int .i64 pl.c.den, .int .i64 pl.d.re, .int .i64 pl.d.im, .int .i64 pl.d.den] 44)
        have hP3 := MtAt.new w2 pl 44
        have hB3 : Below w.heap.size w (w2.alloc (.cells #[.int .i64 pl.a.re, .int .i64 pl.a.im, .int .i64 pl.a.den, .int .i64 pl.b.re, .int .i64 pl.b.im, .int .i64 pl.b.den, .int .i64 pl.c.re, .int .i64 pl.c.im, .int .i64 pl.c.den, .int .i64 pl.d.re, .int .i64 pl.d.im, .int .i64 pl.d.den] 44)) := hB2.alloc (by omega) _
        clear hA2 hR2 hAf2 hRf2 hB2
        go_wp2
        obtain ⟨bp, hbp⟩ : ∃ bp, bp = w2.heap.size := ⟨_, rfl⟩
        rw [← hbp] at hP3 ⊢
        have hbpa : ba < bp := by omega
        have hbpr : w.heap.size < bp := by omega
        have HBP := Lib.hid hbp
        clear hs6 hbp
        go_loopw [9, 10, 34] (fun _ _ j wq => ∃ (jn : Nat) (x : Mt), jn ≤ tn ∧ j = .int .i64 jn ∧ Hid (mulN pl jn m = some x) ∧ MtAt wq ba x ∧ MtAt wq w.heap.size zM ∧ MtAt wq bp pl ∧ FreeB wq ba ∧ FreeB wq w.heap.size ∧ Below w.heap.size w wq) (fun _ _ j _ => tn - (intOf j).toNat)
        case atStart => exact ⟨0, m, Nat.zero_le _, rfl, rfl, hA3, hR3, hP3, hAf3, hRf3, hB3⟩
        case round =>
          clear hA3 hR3 hP3 hAf3 hRf3 hB3
          obtain ⟨jn, x, hj, rfl, hmx, hA, hR, hP, hAf, hRf, hbq⟩ := hrel
          have hzq := hbq.size
          have hqa := hA.lt
          have hqr := hR.lt
          have hqp := hP.lt
          by_cases hjt : jn < tn
          · have hP' := hP
            have hA' := hA
            obtain ⟨p0, p1, p2, p3, p4, p5, p6, p7, p8, p9, p10, p11⟩ := hP'
            obtain ⟨x0, x1, x2, x3, x4, x5, x6, x7, x8, x9, x10, x11⟩ := hA'
            cases hx : mtimesI pl x with
            | none =>
              have HF := Lib.hid (fib_fail hf HS1.out hfk.out HPL.out hmx.out (by have := HTN.out; omega) hx)
              go_wp2_with (go_at_call 36; (with_reducible refine (mtimes_o pl x none _ hx).mono ?_); rintro e w5 ⟨rfl, hb5⟩; refine Hid.out ?_)
              refine Lib.hid ?_
              have hz5 := hb5.size
              have hB5 : Below w.heap.size w w5 := bstep hbq hb5 hzq
              have hR5 := hR.below hb5 hqr
              have hRf5 := hRf.below hb5 hqr
              have hne5 : ¬ w.heap.size = w5.heap.size := by omega
              obtain ⟨r0, r1, r2, r3, r4, r5, r6, r7, r8, r9, r10, r11⟩ := hR5
              clear hb5 p0 p1 p2 p3 p4 p5 p6 p7 p8 p9 p10 p11 x0 x1 x2 x3 x4 x5 x6 x7 x8 x9 x10 x11 hA hP hR hAf hRf
              have hf5 : ∀ o, w5.frozen? ⟨w.heap.size, o, none⟩ = false := hRf5
              go_wp2
              rw [HF.out]
              exact bodyPost_ret (v := mtb none) (by simp [results, Tryd.results16, go_sem, *]) rfl ⟨rfl, by exact below_⟩
            | some y =>
              go_wp2_with (go_at_call 36; (with_reducible refine (mtimes_o pl x (some y) _ hx).mono ?_); rintro e w5 ⟨rfl, hb5⟩; refine Hid.out ?_)
              refine Lib.hid ?_
              have hz5 := hb5.size
              have hB5 : Below w.heap.size w w5 := bstep hbq hb5 hzq
              have hA6 := (hA.below hb5 hqa).alloc (.cells #[.int .i64 y.a.re, .int .i64 y.a.im, .int .i64 y.a.den, .int .i64 y.b.re, .int .i64 y.b.im, .int .i64 y.b.den, .int .i64 y.c.re, .int .i64 y.c.im, .int .i64 y.c.den, .int .i64 y.d.re, .int .i64 y.d.im, .int .i64 y.d.den] 44)
              have hR6 := (hR.below hb5 hqr).alloc (.cells #[.int .i64 y.a.re, .int .i64 y.a.im, .int .i64 y.a.den, .int .i64 y.b.re, .int .i64 y.b.im, .int .i64 y.b.den, .int .i64 y.c.re, .int .i64 y.c.im, .int .i64 y.c.den, .int .i64 y.d.re, .int .i64 y.d.im, .int .i64 y.d.den] 44)
              have hP6 := (hP.below hb5 hqp).alloc (.cells #[.int .i64 y.a.re, .int .i64 y.a.im, .int .i64 y.a.den, .int .i64 y.b.re, .int .i64 y.b.im, .int .i64 y.b.den, .int .i64 y.c.re, .int .i64 y.c.im, .int .i64 y.c.den, .int .i64 y.d.re, .int .i64 y.d.im, .int .i64 y.d.den] 44)
              have hAf6 := (hAf.below hb5 hqa).alloc (by omega) (.cells #[.int .i64 y.a.re, .int .i64 y.a.im, .int .i64 y.a.den, .int .i64 y.b.re, .int .i64 y.b.im, .int .i64 y.b.den, .int .i64 y.c.re, .int .i64 y.c.im, .int .i64 y.c.den, .int .i64 y.d.re, .int .i64 y.d.im, .int .i64 y.d.den] 44)
              have hRf6 := (hRf.below hb5 hqr).alloc (by omega) (.cells #[.int .i64 y.a.re, .int .i64 y.a.im, .int .i64 y.a.den, .int .i64 y.b.re, .int .i64 y.b.im, .int .i64 y.b.den, .int .i64 y.c.re, .int .i64 y.c.im, .int .i64 y.c.den, .int .i64 y.d.re, .int .i64 y.d.im, .int .i64 y.d.den] 44)
              have hB6 : Below w.heap.size w (w5.alloc (.cells #[.int .i64 y.a.re, .int .i64 y.a.im, .int .i64 y.a.den, .int .i64 y.b.re, .int .i64 y.b.im, .int .i64 y.b.den, .int .i64 y.c.re, .int .i64 y.c.im, .int .i64 y.c.den, .int .i64 y.d.re, .int .i64 y.d.im, .int .i64 y.d.den] 44)) := hB5.alloc (by omega) _
              have hAf5 : ∀ o, w5.frozen? ⟨ba, o, none⟩ = false := hAf.below hb5 hqa
              obtain ⟨q0, q1, q2, q3, q4, q5, q6, q7, q8, q9, q10, q11⟩ := hA.below hb5 hqa
              have hne5 : ¬ ba = w5.heap.size := by omega
              clear hb5 p0 p1 p2 p3 p4 p5 p6 p7 p8 p9 p10 p11 x0 x1 x2 x3 x4 x5 x6 x7 x8 x9 x10 x11 hA hP hR hAf hRf
              go_wp2
              go_roundw
              case rel => exact ⟨jn + 1, y, by omega, by go_num, (show mulN pl (jn + 1) m = some y by rw [mulN, hmx.out]; exact hx), setM_at hA6, setM_far hR6 (by omega), setM_far hP6 (by omega), hAf6.setM, hRf6.setM, setM_below hB6 (by omega)⟩
              case measure => simp [intOf]; omega
          · have ej : jn = tn := by omega
            subst ej
            go_wp2
            go_roundw
            case rel => exact ⟨k + 1, x, by omega, by go_num, fib_next HS1.out hfk.out HPL.out (by rw [HTN.out]; exact hmx.out), hA, hR, hAf, hRf, hbq⟩
            case measure => simp [intOf]; omega
      · have ek : k = len := by omega
        subst ek
        have HFM := Lib.hid (show fibMatI xs = some m by rw [fibMatI, if_pos hf, HXL.out]; exact hfk.out)
        obtain ⟨x0, x1, x2, x3, x4, x5, x6, x7, x8, x9, x10, x11⟩ := hA
        obtain ⟨r0, r1, r2, r3, r4, r5, r6, r7, r8, r9, r10, r11⟩ := hR
        have hf5 : ∀ o, wr.frozen? ⟨w.heap.size, o, none⟩ = false := hRf
        go_wp2
        rw [HFM.out]
        exact bodyPost_ret (v := mtb (some m)) (by simp [results, Tryd.results16, go_sem, *]) rfl ⟨rfl, by exact below_⟩
end Go.Proofs.YtiagnnmnaakmoaaDoor
