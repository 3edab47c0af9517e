/-
  The walk of the matrix of a fibre (reference).
-/
import Derived.Test.YtiagnnmnaakmoaaDoorFx
import Derived.Test.YtiagnnmnaakmoaaDoorNd
namespace Go.Proofs.YtiagnnmnaakmoaaDoor
set_option linter.unusedSimpArgs false
set_option linter.unusedVariables false
open Go.RowKit
attribute [local go_sem ↓] Go.wp_at_zero Go.wp_at_succ
/-- A matrix in a block that may be written. -/
def MtF (w : World) (b : Nat) (m : Mt) : Prop := MtAt w b m ∧ FreeB w b
theorem MtF.alloc {w : World} {b : Nat} {m : Mt} (h : MtF w b m) (o : Obj) : MtF (w.alloc o) b m := ⟨h.1.alloc o, h.2.alloc h.1.lt o⟩
theorem MtF.drew {w : World} {b : Nat} {m : Mt} (h : MtF w b m) : MtF w.drew b m := h
theorem MtF.drewN {w : World} {b : Nat} {m : Mt} (h : MtF w b m) (n : Nat) : MtF (w.drewN n) b m := h
theorem MtF.below {w w' : World} {b B : Nat} {m : Mt} (h : MtF w b m) (hb : Below B w w') (hlt : b < B) : MtF w' b m := ⟨h.1.below hb hlt, h.2.below hb hlt⟩
theorem MtF.new (w : World) (m : Mt) (t : TypeId) : MtF (w.alloc (.cells #[.int .i64 m.a.re, .int .i64 m.a.im, .int .i64 m.a.den, .int .i64 m.b.re, .int .i64 m.b.im, .int .i64 m.b.den, .int .i64 m.c.re, .int .i64 m.c.im, .int .i64 m.c.den, .int .i64 m.d.re, .int .i64 m.d.im, .int .i64 m.d.den] t)) w.heap.size m := ⟨MtAt.new w m t, FreeB.new w _ _⟩
theorem fibOk_sec {xs : List Sec} {s : Sec} (h : fibOk xs = true) (hs : s ∈ xs) : dirOk s.p s.q = true ∧ inB s.ph 0 3 = true ∧ 0 ≤ s.t ∧ s.t ≤ 50 := by
  have h1 : secOk s = true := by
    have := h
    simp only [fibOk, Bool.and_eq_true] at this
    exact List.all_eq_true.1 this.1 s hs
  simp only [secOk, Bool.and_eq_true] at h1
  exact ⟨h1.1.1, h1.1.2, inB_iff.1 h1.2⟩
theorem splate_o (p q k : Int) (m : Mt) (w : World) (h : plateI p q k = some m) : Calls Tryd.prog 57 #[.int .i64 p, .int .i64 q, .int .i64 k] w fun e w' => e = .returned (mtb (some m)) ∧ Below w.heap.size w w' := by
  rw [← h]; exact splate_any p q k w
theorem sone_00 (w : World) : Calls Tryd.prog 31 #[frv (phF 0), frv (phF 0)] w fun e w' => e = .returned (mtv oneM) ∧ Below w.heap.size w w' := sone_any (phF 0) (phF 0) w
set_option maxRecDepth 100000 in
set_option maxHeartbeats 6000000 in
theorem sfibMat_any (A : Option Addr) (len cap : Nat) (xs : List Sec) (w : World) (h : Secs A len cap xs w) :
    Calls Tryd.prog 30 #[.slice A len cap] w fun e w' => e = .returned (mtb (fibMatI xs)) ∧ Below w.heap.size w w' := by
  have hV : ∀ w1, Below w.heap.size w w1 → Secs A len cap xs w1 := fun w1 hb => h.below hb
  cases hfx : fibOk xs
  · rw [show fibMatI xs = none by simp [fibMatI, hfx]]
    go_enter Tryd.func30, Tryd.ntmps30
    go_wp2_with (first | (go_at_call 32; (with_reducible refine (sphase_any 0 _ (by decide) (by decide)).mono ?_); rintro e w1 ⟨rfl, hb⟩; obtain ⟨hc, hf⟩ := bf hb (w.heap.size + 1) side_; have hs := hb.size; (try simp only [World.size_alloc, World.size_setCell, World.size_drew, World.heap_drewN] at hs); have hl : w.heap.size ≤ w1.heap.size ∧ w.heap.size < w1.heap.size := ⟨by omega, by omega⟩; obtain ⟨B, hBe, hBl, hc2, hf2⟩ := bfA hb; (try simp only [World.size_alloc, World.size_setCell, World.size_drew, World.heap_drewN] at hBe); have hB : Below w.heap.size w w1 := bstep (by exact below_) hb side_; clear hs hb) | (go_at_call 31; (with_reducible refine (sone_00 _).mono ?_); rintro e w1 ⟨rfl, hb⟩; obtain ⟨hc, hf⟩ := bf hb (w.heap.size + 1) side_; have hs := hb.size; (try simp only [World.size_alloc, World.size_setCell, World.size_drew, World.heap_drewN] at hs); have hl : w.heap.size ≤ w1.heap.size ∧ w.heap.size < w1.heap.size := ⟨by omega, by omega⟩; obtain ⟨B, hBe, hBl, hc2, hf2⟩ := bfA hb; (try simp only [World.size_alloc, World.size_setCell, World.size_drew, World.heap_drewN] at hBe); have hB : Below w.heap.size w w1 := bstep (by exact below_) hb side_; clear hs hb) | (go_at_call 56; (with_reducible refine (sfibValid_f A len cap xs _ (hV _ (by exact below_)) hfx).mono ?_); rintro e w1 ⟨rfl, hb⟩; obtain ⟨hc, hf⟩ := bf hb (w.heap.size + 1) side_; have hs := hb.size; (try simp only [World.size_alloc, World.size_setCell, World.size_drew, World.heap_drewN] at hs); have hl : w.heap.size ≤ w1.heap.size ∧ w.heap.size < w1.heap.size := ⟨by omega, by omega⟩; obtain ⟨B, hBe, hBl, hc2, hf2⟩ := bfA hb; (try simp only [World.size_alloc, World.size_setCell, World.size_drew, World.heap_drewN] at hBe); have hB : Below w.heap.size w w1 := bstep (by exact below_) hb side_; clear hs hb))
    exact bodyPost_ret (v := mtb none) (by simp [results, Tryd.results30, go_sem, *]) rfl ⟨rfl, by exact below_⟩
  · have hl8 := fibOk_len hfx
    have hxl := h.1
    have hl := h.2.1
    have hm := h.2.2.1
    have hl9 : len ≤ 8 := by omega
    have hR0 : MtF (w.alloc (.cells #[.int .i64 0, .int .i64 0, .int .i64 0, .int .i64 0, .int .i64 0, .int .i64 0, .int .i64 0, .int .i64 0, .int .i64 0, .int .i64 0, .int .i64 0, .int .i64 0] 44)) w.heap.size zM := MtF.new w zM 44
    go_enter Tryd.func30, Tryd.ntmps30
    go_wp2_with (first | (go_at_call 32; (with_reducible refine (sphase_any 0 _ (by decide) (by decide)).mono ?_); rintro e w1 ⟨rfl, hb⟩; have hz1 := hb.size; (try simp only [World.size_alloc] at hz1); have hR1 : MtF w1 w.heap.size zM := (by refine MtF.below (w := _) ?_ hb ?_; (repeat' (first | (with_reducible assumption) | (with_reducible exact MtF.new _ _ _) | (exact MtF.new _ zM _) | (with_reducible apply MtF.alloc) | (with_reducible apply MtF.drewN) | (with_reducible apply MtF.drew) | (exact MtF.new _ zM _))); first | done | omega | (simp; done) | (simp; omega)); have hB : Below w.heap.size w w1 := bstep (by exact below_) hb side_; clear hb) | (go_at_call 31; (with_reducible refine (sone_00 _).mono ?_); rintro e w1 ⟨rfl, hb⟩; have hz1 := hb.size; have hR1 : MtF w1 w.heap.size zM := (by refine MtF.below (w := _) ?_ hb ?_; (repeat' (first | (with_reducible assumption) | (with_reducible exact MtF.new _ _ _) | (exact MtF.new _ zM _) | (with_reducible apply MtF.alloc) | (with_reducible apply MtF.drewN) | (with_reducible apply MtF.drew) | (exact MtF.new _ zM _))); first | done | omega | (simp; done) | (simp; omega)); have hB : Below w.heap.size w w1 := bstep (by exact below_) hb side_; clear hb; refine Hid.out ?_))
    refine Lib.hid ?_
    have hzw : w.heap.size < w1.heap.size := hR1.1.lt
    have hA1 := MtF.new w1 oneM 44
    have hR1 := hR1.alloc (.cells #[.int .i64 oneM.a.re, .int .i64 oneM.a.im, .int .i64 oneM.a.den, .int .i64 oneM.b.re, .int .i64 oneM.b.im, .int .i64 oneM.b.den, .int .i64 oneM.c.re, .int .i64 oneM.c.im, .int .i64 oneM.c.den, .int .i64 oneM.d.re, .int .i64 oneM.d.im, .int .i64 oneM.d.den] 44)
    have hB1 : Below w.heap.size w (w1.alloc (.cells #[.int .i64 oneM.a.re, .int .i64 oneM.a.im, .int .i64 oneM.a.den, .int .i64 oneM.b.re, .int .i64 oneM.b.im, .int .i64 oneM.b.den, .int .i64 oneM.c.re, .int .i64 oneM.c.im, .int .i64 oneM.c.den, .int .i64 oneM.d.re, .int .i64 oneM.d.im, .int .i64 oneM.d.den] 44)) := hB.alloc (by omega) _
    go_wp2_with (go_at_call 56; (with_reducible refine (sfibValid_t A len cap xs _ (hV _ hB1) hfx).mono ?_); rintro e w2 ⟨rfl, hb⟩; refine Hid.out ?_)
    refine Lib.hid ?_
    have hA0 := hA1.below hb (by simp)
    have hR0 := hR1.below hb (by simp; omega)
    have hB0 : Below w.heap.size w w2 := bstep hB1 hb (by simp; omega)
    obtain ⟨ba, hba⟩ : ∃ ba, ba = w1.heap.size := ⟨_, rfl⟩
    rw [← hba] at hA0 ⊢
    have hbaR : w.heap.size < ba := by omega
    have HBA := Lib.hid hba
    have HXL := Lib.hid hxl
    clear hba hxl hb hl8 hA1 hR1 hB1 hzw
    go_wp2
    go_loopw [5, 6, 7, 8, 9, 10] (fun i _ _ _ _ _ wr => ∃ (k : Nat) (m : Mt), k ≤ len ∧ i = .int .i64 k ∧ Hid (fibK xs k = some m) ∧ MtF wr ba m ∧ MtF wr w.heap.size zM ∧ Below w.heap.size w wr) (fun i _ _ _ _ _ _ => len - (intOf i).toNat)
    case atStart => exact ⟨0, oneM, Nat.zero_le _, rfl, rfl, hA0, hR0, hB0⟩
    case round =>
      clear hA0 hR0 hB0
      obtain ⟨k, m, hk, rfl, hfk, hA, hR, hb⟩ := hrel
      have hz := hb.size
      have hlta := hA.1.lt
      have hltr := hR.1.lt
      by_cases hkl : k < len
      · obtain ⟨b1, o1, s, rfl, hlt1, hs1, hat⟩ := h.at (Below.refl _ _) hkl
        have hok := fibOk_sec hfx (List.mem_of_getElem? hs1)
        obtain ⟨d1, d2, t0, t1⟩ := hok
        obtain ⟨pa, pl, e1, e2⟩ := plate_some d1 d2
        have HPL := Lib.hid (show plateI s.p s.q s.ph = some pl by simp [plateI, d1, d2, e1, e2])
        obtain ⟨tn, htn⟩ := Int.eq_ofNat_of_zero_le t0
        have HTN := Lib.hid (show s.t.toNat = tn by omega)
        have HTI := Lib.hid htn
        have HAT := Lib.hid hat
        obtain ⟨c0, c1, c2, c3⟩ := hat.below hb hlt1
        rw [htn] at c3
        have htn50 : tn ≤ 50 := by omega
        have HS1 := Lib.hid hs1
        clear hs1 e1 e2 htn t0 t1 d1 d2 hat
        go_wp2
        go_region_held3 (fun w' => w'.cell? ⟨b1, o1 + k * 4, none⟩ = some (.int .i64 s.p) ∧ w'.cell? ⟨b1, o1 + k * 4 + 1, none⟩ = some (.int .i64 s.q) ∧ w'.cell? ⟨b1, o1 + k * 4 + 2, none⟩ = some (.int .i64 s.ph)) ((first | go_keep | (simp [go_sem, *]; done))) (first | (go_at_call 57; (with_reducible refine (splate_o s.p s.q s.ph pl _ HPL.out).mono ?_); rintro e w2 ⟨rfl, hb2⟩; have hz2 := hb2.size; (try simp only [World.size_alloc, World.size_setCell, World.size_drew, World.heap_drewN] at hz2); obtain ⟨hc, hfz⟩ := bf hb2 w.heap.size side_; have hB2 : Below w.heap.size w w2 := bstep (by exact below_) hb2 side_; have hA2 : MtF w2 ba m := (by refine MtF.below (w := _) ?_ hb2 ?_; (repeat' (first | (with_reducible assumption) | (with_reducible exact MtF.new _ _ _) | (exact MtF.new _ zM _) | (with_reducible apply MtF.alloc) | (with_reducible apply MtF.drewN) | (with_reducible apply MtF.drew) | (exact MtF.new _ zM _))); first | done | omega | (simp; done) | (simp; omega)); have hR2 : MtF w2 w.heap.size zM := (by refine MtF.below (w := _) ?_ hb2 ?_; (repeat' (first | (with_reducible assumption) | (with_reducible exact MtF.new _ _ _) | (exact MtF.new _ zM _) | (with_reducible apply MtF.alloc) | (with_reducible apply MtF.drewN) | (with_reducible apply MtF.drew) | (exact MtF.new _ zM _))); first | done | omega | (simp; done) | (simp; omega)); (try (have hP2 : MtF w2 wr.heap.size zM := (by refine MtF.below (w := _) ?_ hb2 ?_; (repeat' (first | (with_reducible assumption) | (with_reducible exact MtF.new _ _ _) | (exact MtF.new _ zM _) | (with_reducible apply MtF.alloc) | (with_reducible apply MtF.drewN) | (with_reducible apply MtF.drew) | (exact MtF.new _ zM _))); first | done | omega | (simp; done) | (simp; omega)); have hPf := hP2.2; have hPa := hP2.1; unfold FreeB at hPf; obtain ⟨z0, z1, z2, z3, z4, z5, z6, z7, z8, z9, z10, z11⟩ := hPa)); clear hb2))
        · skip
          have hA3 := hA2.alloc (.cells #[.int .i64 pl.a.re, .int .i64 pl.a.im, .int .i64 pl.a.den, .int .i64 pl.b.re, .int .i64 pl.b.im, .int .i64 pl.b.den, .int .i64 pl.c.re, .int .i64 pl.c.im, .int .i64 pl.c.den, .int .i64 pl.d.re, .int .i64 pl.d.im, .int .i64 pl.d.den] 44)
          have hR3 := hR2.alloc (.cells #[.int .i64 pl.a.re, .int .i64 pl.a.im, .int .i64 pl.a.den, .int .i64 pl.b.re, .int .i64 pl.b.im, .int .i64 pl.b.den, .int .i64 pl.c.re, .int .i64 pl.c.im, .int .i64 pl.c.den, .int .i64 pl.d.re, .int .i64 pl.d.im, .int .i64 pl.d.den] 44)
          have hP3 := MtAt.new w2 pl 44
          have hB3 : Below w.heap.size w (w2.alloc (.cells #[.int .i64 pl.a.re, .int .i64 pl.a.im, .int .i64 pl.a.den, .int .i64 pl.b.re, .int .i64 pl.b.im, .int .i64 pl.b.den, .int .i64 pl.c.re, .int .i64 pl.c.im, .int .i64 pl.c.den, .int .i64 pl.d.re, .int .i64 pl.d.im, .int .i64 pl.d.den] 44)) := hB2.alloc (by omega) _
          clear hc hfz c0 c1 c2 c3
          obtain ⟨w3, hw3⟩ : ∃ w3, w3 = w2.alloc (.cells #[.int .i64 pl.a.re, .int .i64 pl.a.im, .int .i64 pl.a.den, .int .i64 pl.b.re, .int .i64 pl.b.im, .int .i64 pl.b.den, .int .i64 pl.c.re, .int .i64 pl.c.im, .int .i64 pl.c.den, .int .i64 pl.d.re, .int .i64 pl.d.im, .int .i64 pl.d.den] 44) := ⟨_, rfl⟩
          rw [← hw3] at hA3 hR3 hP3 hB3 ⊢
          have HW3 := Lib.hid hw3
          clear hw3
          clear hA2 hR2
          go_wp2
          obtain ⟨bp, hbp⟩ : ∃ bp, bp = w2.heap.size := ⟨_, rfl⟩
          rw [← hbp] at hP3 ⊢
          have hbpa : ba < bp := by omega
          have hbpr : w.heap.size < bp := by omega
          have HBP := Lib.hid hbp
          clear hbp
          go_loopw [8, 9, 10] (fun j _ _ wq => ∃ (jn : Nat) (x : Mt), jn ≤ tn ∧ j = .int .i64 jn ∧ Hid (mulN pl jn m = some x) ∧ MtF wq ba x ∧ MtF wq w.heap.size zM ∧ MtAt wq bp pl ∧ Below w.heap.size w wq) (fun j _ _ _ => tn - (intOf j).toNat)
          case atStart => exact ⟨0, m, Nat.zero_le _, rfl, rfl, hA3, hR3, hP3, hB3⟩
          case round =>
            clear hA3 hR3 hP3 hB3
            obtain ⟨jn, x, hj, rfl, hmx, hA, hR, hP, hbq⟩ := hrel
            have hzq := hbq.size
            have hqa := hA.1.lt
            have hqr := hR.1.lt
            have hqp := hP.lt
            obtain ⟨-, -, -, c3⟩ := HAT.out.below hbq hlt1
            rw [HTI.out] at c3
            by_cases hjt : jn < tn
            · have hP' := hP
              have hA' := hA.1
              obtain ⟨p0, p1, p2, p3, p4, p5, p6, p7, p8, p9, p10, p11⟩ := hP'
              obtain ⟨x0, x1, x2, x3, x4, x5, x6, x7, x8, x9, x10, x11⟩ := hA'
              cases hx : mtimesI pl x with
              | none =>
                have HF := Lib.hid (fib_fail hfx HS1.out hfk.out HPL.out hmx.out (by have := HTN.out; omega) hx)
                go_wp2_with (go_at_call 34; (with_reducible refine (smtimes_o pl x none _ hx).mono ?_); rintro e w5 ⟨rfl, hb5⟩; refine Hid.out ?_)
                refine Lib.hid ?_
                have hz5 := hb5.size
                have hB5 : Below w.heap.size w w5 := bstep hbq hb5 hzq
                have hR5 := hR.below hb5 hqr
                have hne5 : ¬ w.heap.size = w5.heap.size := by omega
                have hf5 : ∀ o, w5.frozen? ⟨w.heap.size, o, none⟩ = false := hR5.2
                obtain ⟨r0, r1, r2, r3, r4, r5, r6, r7, r8, r9, r10, r11⟩ := hR5.1
                clear hb5 p0 p1 p2 p3 p4 p5 p6 p7 p8 p9 p10 p11 x0 x1 x2 x3 x4 x5 x6 x7 x8 x9 x10 x11 hA hP hR hR5
                go_wp2
                rw [HF.out]
                exact bodyPost_ret (v := mtb none) (by simp [results, Tryd.results30, go_sem, *]) rfl ⟨rfl, by exact below_⟩
              | some y =>
                go_wp2_with (go_at_call 34; (with_reducible refine (smtimes_o pl x (some y) _ hx).mono ?_); rintro e w5 ⟨rfl, hb5⟩; refine Hid.out ?_)
                refine Lib.hid ?_
                have hz5 := hb5.size
                have hB5 : Below w.heap.size w w5 := bstep hbq hb5 hzq
                have hA5 := hA.below hb5 hqa
                have hA6 := hA5.alloc (.cells #[.int .i64 y.a.re, .int .i64 y.a.im, .int .i64 y.a.den, .int .i64 y.b.re, .int .i64 y.b.im, .int .i64 y.b.den, .int .i64 y.c.re, .int .i64 y.c.im, .int .i64 y.c.den, .int .i64 y.d.re, .int .i64 y.d.im, .int .i64 y.d.den] 44)
                have hR6 := (hR.below hb5 hqr).alloc (.cells #[.int .i64 y.a.re, .int .i64 y.a.im, .int .i64 y.a.den, .int .i64 y.b.re, .int .i64 y.b.im, .int .i64 y.b.den, .int .i64 y.c.re, .int .i64 y.c.im, .int .i64 y.c.den, .int .i64 y.d.re, .int .i64 y.d.im, .int .i64 y.d.den] 44)
                have hP6 := (hP.below hb5 hqp).alloc (.cells #[.int .i64 y.a.re, .int .i64 y.a.im, .int .i64 y.a.den, .int .i64 y.b.re, .int .i64 y.b.im, .int .i64 y.b.den, .int .i64 y.c.re, .int .i64 y.c.im, .int .i64 y.c.den, .int .i64 y.d.re, .int .i64 y.d.im, .int .i64 y.d.den] 44)
                have hB6 : Below w.heap.size w (w5.alloc (.cells #[.int .i64 y.a.re, .int .i64 y.a.im, .int .i64 y.a.den, .int .i64 y.b.re, .int .i64 y.b.im, .int .i64 y.b.den, .int .i64 y.c.re, .int .i64 y.c.im, .int .i64 y.c.den, .int .i64 y.d.re, .int .i64 y.d.im, .int .i64 y.d.den] 44)) := hB5.alloc (by omega) _
                have hAf5 : ∀ o, w5.frozen? ⟨ba, o, none⟩ = false := hA5.2
                obtain ⟨q0, q1, q2, q3, q4, q5, q6, q7, q8, q9, q10, q11⟩ := hA5.1
                have hne5 : ¬ ba = w5.heap.size := by omega
                clear hb5 p0 p1 p2 p3 p4 p5 p6 p7 p8 p9 p10 p11 x0 x1 x2 x3 x4 x5 x6 x7 x8 x9 x10 x11 hA hP hR hA5
                go_wp2
                go_roundw
                case rel => exact ⟨jn + 1, y, by omega, by go_num, (show mulN pl (jn + 1) m = some y by rw [mulN, hmx.out]; exact hx), ⟨setM_at hA6.1, hA6.2.setM⟩, ⟨setM_far hR6.1 (by omega), hR6.2.setM⟩, setM_far hP6 (by omega), setM_below hB6 (by omega)⟩
                case measure => simp [intOf]; omega
            · have ej : jn = tn := by omega
              subst ej
              go_wp2
              go_roundw
              case rel => exact ⟨k + 1, x, by omega, by go_num, fib_next HS1.out hfk.out HPL.out (by rw [HTN.out]; exact hmx.out), hA, hR, hbq⟩
              case measure => simp [intOf]; omega
        · skip
          have hA3 : MtF (setM w2 wr.heap.size pl) ba m := ⟨setM_far hA2.1 (by omega), hA2.2.setM⟩
          have hR3 : MtF (setM w2 wr.heap.size pl) w.heap.size zM := ⟨setM_far hR2.1 (by omega), hR2.2.setM⟩
          have hP3 : MtAt (setM w2 wr.heap.size pl) wr.heap.size pl := setM_at hP2.1
          have hB3 : Below w.heap.size w (setM w2 wr.heap.size pl) := setM_below hB2 hz
          clear c0 c1 c2 c3 hP2 hPf hc hfz z0 z1 z2 z3 z4 z5 z6 z7 z8 z9 z10 z11
          obtain ⟨w3, hw3⟩ : ∃ w3, w3 = (((((((((((w2.setCell ⟨wr.heap.size, 0, none⟩ (.int .i64 pl.a.re)).setCell ⟨wr.heap.size, 1, none⟩ (.int .i64 pl.a.im)).setCell ⟨wr.heap.size, 2, none⟩ (.int .i64 pl.a.den)).setCell ⟨wr.heap.size, 3, none⟩ (.int .i64 pl.b.re)).setCell ⟨wr.heap.size, 4, none⟩ (.int .i64 pl.b.im)).setCell ⟨wr.heap.size, 5, none⟩ (.int .i64 pl.b.den)).setCell ⟨wr.heap.size, 6, none⟩ (.int .i64 pl.c.re)).setCell ⟨wr.heap.size, 7, none⟩ (.int .i64 pl.c.im)).setCell ⟨wr.heap.size, 8, none⟩ (.int .i64 pl.c.den)).setCell ⟨wr.heap.size, 9, none⟩ (.int .i64 pl.d.re)).setCell ⟨wr.heap.size, 10, none⟩ (.int .i64 pl.d.im)).setCell ⟨wr.heap.size, 11, none⟩ (.int .i64 pl.d.den) := ⟨_, rfl⟩
          have hA3 : MtF w3 ba m := by rw [hw3]; exact hA3
          have hR3 : MtF w3 w.heap.size zM := by rw [hw3]; exact hR3
          have hP3 : MtAt w3 wr.heap.size pl := by rw [hw3]; exact hP3
          have hB3 : Below w.heap.size w w3 := by rw [hw3]; exact hB3
          rw [← hw3]
          have HW3 := Lib.hid hw3
          clear hw3
          clear hA2 hR2
          go_wp2
          obtain ⟨bp, hbp⟩ : ∃ bp, bp = wr.heap.size := ⟨_, rfl⟩
          rw [← hbp] at hP3 ⊢
          have hbpa : ba < bp := by omega
          have hbpr : w.heap.size < bp := by omega
          have HBP := Lib.hid hbp
          clear hbp
          go_loopw [8, 9, 10] (fun j _ _ wq => ∃ (jn : Nat) (x : Mt), jn ≤ tn ∧ j = .int .i64 jn ∧ Hid (mulN pl jn m = some x) ∧ MtF wq ba x ∧ MtF wq w.heap.size zM ∧ MtAt wq bp pl ∧ Below w.heap.size w wq) (fun j _ _ _ => tn - (intOf j).toNat)
          case atStart => exact ⟨0, m, Nat.zero_le _, rfl, rfl, hA3, hR3, hP3, hB3⟩
          case round =>
            clear hA3 hR3 hP3 hB3
            obtain ⟨jn, x, hj, rfl, hmx, hA, hR, hP, hbq⟩ := hrel
            have hzq := hbq.size
            have hqa := hA.1.lt
            have hqr := hR.1.lt
            have hqp := hP.lt
            obtain ⟨-, -, -, c3⟩ := HAT.out.below hbq hlt1
            rw [HTI.out] at c3
            by_cases hjt : jn < tn
            · have hP' := hP
              have hA' := hA.1
              obtain ⟨p0, p1, p2, p3, p4, p5, p6, p7, p8, p9, p10, p11⟩ := hP'
              obtain ⟨x0, x1, x2, x3, x4, x5, x6, x7, x8, x9, x10, x11⟩ := hA'
              cases hx : mtimesI pl x with
              | none =>
                have HF := Lib.hid (fib_fail hfx HS1.out hfk.out HPL.out hmx.out (by have := HTN.out; omega) hx)
                go_wp2_with (go_at_call 34; (with_reducible refine (smtimes_o pl x none _ hx).mono ?_); rintro e w5 ⟨rfl, hb5⟩; refine Hid.out ?_)
                refine Lib.hid ?_
                have hz5 := hb5.size
                have hB5 : Below w.heap.size w w5 := bstep hbq hb5 hzq
                have hR5 := hR.below hb5 hqr
                have hne5 : ¬ w.heap.size = w5.heap.size := by omega
                have hf5 : ∀ o, w5.frozen? ⟨w.heap.size, o, none⟩ = false := hR5.2
                obtain ⟨r0, r1, r2, r3, r4, r5, r6, r7, r8, r9, r10, r11⟩ := hR5.1
                clear hb5 p0 p1 p2 p3 p4 p5 p6 p7 p8 p9 p10 p11 x0 x1 x2 x3 x4 x5 x6 x7 x8 x9 x10 x11 hA hP hR hR5
                go_wp2
                rw [HF.out]
                exact bodyPost_ret (v := mtb none) (by simp [results, Tryd.results30, go_sem, *]) rfl ⟨rfl, by exact below_⟩
              | some y =>
                go_wp2_with (go_at_call 34; (with_reducible refine (smtimes_o pl x (some y) _ hx).mono ?_); rintro e w5 ⟨rfl, hb5⟩; refine Hid.out ?_)
                refine Lib.hid ?_
                have hz5 := hb5.size
                have hB5 : Below w.heap.size w w5 := bstep hbq hb5 hzq
                have hA5 := hA.below hb5 hqa
                have hA6 := hA5.alloc (.cells #[.int .i64 y.a.re, .int .i64 y.a.im, .int .i64 y.a.den, .int .i64 y.b.re, .int .i64 y.b.im, .int .i64 y.b.den, .int .i64 y.c.re, .int .i64 y.c.im, .int .i64 y.c.den, .int .i64 y.d.re, .int .i64 y.d.im, .int .i64 y.d.den] 44)
                have hR6 := (hR.below hb5 hqr).alloc (.cells #[.int .i64 y.a.re, .int .i64 y.a.im, .int .i64 y.a.den, .int .i64 y.b.re, .int .i64 y.b.im, .int .i64 y.b.den, .int .i64 y.c.re, .int .i64 y.c.im, .int .i64 y.c.den, .int .i64 y.d.re, .int .i64 y.d.im, .int .i64 y.d.den] 44)
                have hP6 := (hP.below hb5 hqp).alloc (.cells #[.int .i64 y.a.re, .int .i64 y.a.im, .int .i64 y.a.den, .int .i64 y.b.re, .int .i64 y.b.im, .int .i64 y.b.den, .int .i64 y.c.re, .int .i64 y.c.im, .int .i64 y.c.den, .int .i64 y.d.re, .int .i64 y.d.im, .int .i64 y.d.den] 44)
                have hB6 : Below w.heap.size w (w5.alloc (.cells #[.int .i64 y.a.re, .int .i64 y.a.im, .int .i64 y.a.den, .int .i64 y.b.re, .int .i64 y.b.im, .int .i64 y.b.den, .int .i64 y.c.re, .int .i64 y.c.im, .int .i64 y.c.den, .int .i64 y.d.re, .int .i64 y.d.im, .int .i64 y.d.den] 44)) := hB5.alloc (by omega) _
                have hAf5 : ∀ o, w5.frozen? ⟨ba, o, none⟩ = false := hA5.2
                obtain ⟨q0, q1, q2, q3, q4, q5, q6, q7, q8, q9, q10, q11⟩ := hA5.1
                have hne5 : ¬ ba = w5.heap.size := by omega
                clear hb5 p0 p1 p2 p3 p4 p5 p6 p7 p8 p9 p10 p11 x0 x1 x2 x3 x4 x5 x6 x7 x8 x9 x10 x11 hA hP hR hA5
                go_wp2
                go_roundw
                case rel => exact ⟨jn + 1, y, by omega, by go_num, (show mulN pl (jn + 1) m = some y by rw [mulN, hmx.out]; exact hx), ⟨setM_at hA6.1, hA6.2.setM⟩, ⟨setM_far hR6.1 (by omega), hR6.2.setM⟩, setM_far hP6 (by omega), setM_below hB6 (by omega)⟩
                case measure => simp [intOf]; omega
            · have ej : jn = tn := by omega
              subst ej
              go_wp2
              go_roundw
              case rel => exact ⟨k + 1, x, by omega, by go_num, fib_next HS1.out hfk.out HPL.out (by rw [HTN.out]; exact hmx.out), hA, hR, hbq⟩
              case measure => simp [intOf]; omega
      · have ek : k = len := by omega
        subst ek
        have HFM := Lib.hid (show fibMatI xs = some m by rw [fibMatI, if_pos hfx, HXL.out]; exact hfk.out)
        obtain ⟨x0, x1, x2, x3, x4, x5, x6, x7, x8, x9, x10, x11⟩ := hA.1
        obtain ⟨r0, r1, r2, r3, r4, r5, r6, r7, r8, r9, r10, r11⟩ := hR.1
        have hf5 : ∀ o, wr.frozen? ⟨w.heap.size, o, none⟩ = false := hR.2
        go_wp2
        rw [HFM.out]
        exact bodyPost_ret (v := mtb (some m)) (by simp [results, Tryd.results30, go_sem, *]) rfl ⟨rfl, by exact below_⟩
end Go.Proofs.YtiagnnmnaakmoaaDoor
