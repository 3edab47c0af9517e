/-
  The walk of the program's PortSeen.
-/
import Derived.Test.YtjbnkefeacineaaGreatDoorIv
import Derived.Test.YtjbnkefeacineaaGreatDoorIl
namespace Go.Proofs.YtjbnkefeacineaaGreatDoor
set_option linter.unusedSimpArgs false
set_option linter.unusedVariables false
open Go.RowKit
attribute [local go_sem ↓] Go.wp_at_zero Go.wp_at_succ
/-- The elements of a list of four, to be read in every later world. -/
theorem row_at {A : Option Addr} {cap : Nat} {fs : List Fr} {w : World} (h : Frs A 4 cap fs w) : ∃ (bb off : Nat), A = some ⟨bb, off, none⟩ ∧ bb < w.heap.size ∧ ∀ k, k < 4 → ∀ W', Below w.heap.size w W' → FAt W' bb (off + k * 3) (atF fs k) := by
  obtain ⟨h1, h2, h3, h4⟩ := h
  obtain ⟨bb, off, e, hbb, hc⟩ := h4 (by omega)
  exact ⟨bb, off, e, hbb, fun k hk W' hb => (hc k _ (atF_mem (by omega))).below hb hbb⟩
theorem qs_over {w W : World} {bs : Nat} {bl : List (Nat × Array Value × TypeId)} {bad : Bool} (a c v : Fr) (n : Bool) (hv : Hid ((overI a c).getD Z3 = v ∧ (overI a c).isNone = n)) (hG : GZ w) (h : QS w bs bl bad W) :
    Calls Tryz.prog 61 #[.pointer (some ⟨bs, 0, none⟩), frv a, frv c] W fun e w' => e = .returned (frv v) ∧ QS w bs bl (bad || n) w' := by
  rw [← hv.out.1, ← hv.out.2]
  exact (x_over a c bs W (SumEx.of h.s) (hG.below h.B)).mono fun e w' ⟨h1, hu, hx⟩ => ⟨h1, h.step hx (hu _ h.s)⟩
theorem none_of {α : Type} {o : Option α} {p : Bool} (h : o.isSome = p) : o.isNone = !p := by rw [← h]; cases o <;> rfl
set_option maxRecDepth 100000 in
set_option maxHeartbeats 8000000 in
theorem seen_any (a b : ByteArray) (v : Jn) (w : World) (ha : a.size ≤ 1048576) (hb2 : b.size ≤ 1048576) (hGP : GP w) :
    Calls Tryz.prog 25 #[.string a, .string b, jnv v] w fun e w' => e = .returned (frb (seenI a.data.toList b.data.toList v)) ∧ Below w.heap.size w w' := by
  obtain ⟨R, hR⟩ : ∃ R, fringesI a.data.toList b.data.toList v = R := ⟨_, rfl⟩
  obtain ⟨N, hN⟩ : ∃ N, seenI a.data.toList b.data.toList v = N := ⟨_, rfl⟩
  obtain ⟨ok, hok⟩ : ∃ ok, R.isSome = ok := ⟨_, rfl⟩
  rw [hN]
  have HR := Lib.hid hR
  have HN := Lib.hid hN
  have HOK := Lib.hid hok
  clear hN hR hok
  go_enter Tryz.func25, Tryz.ntmps25
  obtain ⟨W0, hW, hW0⟩ : ∃ W, W = (w.alloc (.cells #[.int .i64 v.x.re, .int .i64 v.x.im, .int .i64 v.x.den, .int .i64 v.y.re, .int .i64 v.y.im, .int .i64 v.y.den] 26)).alloc (.cells #[.int .i64 0, .int .i64 0, .int .i64 0] 24) ∧ BW w [(w.heap.size + 1, frc Z3, 24), (w.heap.size, jc v, 26)] W := by
    refine ⟨_, rfl, ?_⟩
    have h1 := BW.one w (jc v) 26
    have h2 := h1.push (Below.refl _ _) (frc Z3) 24
    simp only [World.size_alloc] at h2
    exact h2
  go_upto_region 1 with fail
  rw [← hW]
  clear hW
  obtain ⟨q00, q01, q02, q03, q04, q05⟩ := (blk_j (a := v) (hW0.at (b := w.heap.size) (cs := jc v) (t := 26) (by simp))).1
  have q0l := blk_lt (hW0.at (b := w.heap.size) (cs := jc v) (t := 26) (by simp))
  have hfr := fringes_any a b v W0 ha hb2 (hGP.below hW0.B)
  rw [HR.out, HOK.out] at hfr
  go_upto_region 2 with (first | (go_at_call 15; (with_reducible refine hfr.mono ?_); rintro e w1 ⟨lv, rfl, hO, hb⟩))
  have hW1 := hW0.step hb
  clear hfr hb hW0 q00 q01 q02 q03 q04 q05 q0l
  cases ok
  · skip
    have he : N = none := by
      rw [← HN.out]
      refine seen_no ?_
      rw [HR.out]
      have := HOK.out
      cases R with
      | none => rfl
      | some fs => cases this
    subst he
    clear hO
    obtain ⟨q10, q11, q12⟩ := blk_fr0 (f := Z3) (hW1.at (b := w.heap.size + 1) (cs := frc Z3) (t := 24) (by simp))
    have q1l := blk_lt (hW1.at (b := w.heap.size + 1) (cs := frc Z3) (t := 24) (by simp))
    have q1f := blk_free0 (hW1.at (b := w.heap.size + 1) (cs := frc Z3) (t := 24) (by simp))
    have hBF := hW1.B
    go_wp2
    exact bodyPost_ret (v := frb none) (by simp [results, Tryz.results25, go_sem, *]) rfl ⟨rfl, by exact below_⟩
  obtain ⟨fs, hfs⟩ := Option.isSome_iff_exists.1 HOK.out
  subst hfs
  obtain ⟨hl, hrr⟩ := fringes_real HR.out
  have HRR := Lib.hid (fun f hf => (hrr f hf).1)
  obtain ⟨A1, c1, hv1, hF1⟩ := hO.frs
  subst hv1
  simp only [Option.getD_some] at hF1
  rw [hl] at hF1
  have HLN := Lib.hid hl
  have hlen : ((some fs : Option (List Fr)).getD []).length = 4 := hl
  rw [hlen]
  have hcap := hF1.2.1
  have hcm := hF1.2.2.1
  have hj4 : grt fs 4 < 4 := by have := grt_lt fs 4; omega
  have hl4 : lst fs 4 < 4 := by have := lst_lt fs 4; omega
  obtain ⟨s, hs⟩ : ∃ s, atF fs (grt fs 4) = s := ⟨_, rfl⟩
  obtain ⟨t, ht⟩ : ∃ t, atF fs (lst fs 4) = t := ⟨_, rfl⟩
  obtain ⟨T, p, hT⟩ : ∃ q1 ok1, (lessI s t).getD Z3 = q1 ∧ (lessI s t).isSome = ok1 := ⟨_, _, rfl, rfl⟩
  obtain ⟨U, q, hU⟩ : ∃ q1 ok1, (addI s t).getD Z3 = q1 ∧ (addI s t).isSome = ok1 := ⟨_, _, rfl, rfl⟩
  obtain ⟨O, u, hov⟩ : ∃ q1 ok1, (overI T U).getD Z3 = q1 ∧ (overI T U).isSome = ok1 := ⟨_, _, rfl, rfl⟩
  have hgo := seen_go HR.out hs ht hT hU hov
  rw [HN.out] at hgo
  have HGO := Lib.hid hgo
  have HT := Lib.hid hT
  have HU := Lib.hid hU
  have HO := Lib.hid hov
  have HS := Lib.hid hs
  have HT2 := Lib.hid ht
  clear hgo hT hU hov hs ht hrr hO hlen hl
  have hz1l := Nat.lt_of_lt_of_le (blk_lt (hW1.at (b := w.heap.size + 1) (cs := frc Z3) (t := 24) (by simp))) (Nat.le_refl _)
  have hTN := Lib.hid (And.intro HT.out.1 (none_of HT.out.2))
  have hUN := Lib.hid (And.intro HU.out.1 (none_of HU.out.2))
  have hON := Lib.hid (And.intro HO.out.1 (none_of HO.out.2))
  obtain ⟨bb, off, rfl, hbb, hAt⟩ := row_at hF1
  have hgr := fun W hF => greatest_any (some ⟨bb, off, none⟩) c1 fs W hF HRR.out
  obtain ⟨jn, hjn⟩ : ∃ n, grt fs 4 = n := ⟨_, rfl⟩
  rw [hjn] at hj4 hgr
  have hsj : atF fs jn = s := by rw [← hjn]; exact HS.out
  have HSJ := Lib.hid hsj
  have HAT := Lib.hid hAt
  have hji : (jn : Int) < 4 := by omega
  clear hAt hjn hsj
  go_upto_region 5 with (first | (go_at_call 46; (with_reducible refine (hgr _ hF1).mono ?_); rintro e w2 ⟨rfl, hb⟩; have hc := HAT.out jn hj4 w2 hb; rw [HSJ.out] at hc; obtain ⟨s0, s1, s2⟩ := hc))
  have hP := hW1.push hb (frc s) 24
  obtain ⟨bH, hbH⟩ : ∃ x, x = w2.heap.size := ⟨_, rfl⟩
  obtain ⟨W3, hW, hWr⟩ : ∃ W, W = w2.alloc (.cells #[.int .i64 s.re, .int .i64 s.im, .int .i64 s.den] 24) ∧ W = w2.alloc (.cells (frc s) 24) := ⟨_, rfl, rfl⟩
  have hB3 : Below w1.heap.size w1 W3 := by rw [hW]; exact hb.alloc hb.size _
  have hbH1 : w1.heap.size ≤ bH := by rw [hbH]; exact hb.size
  rw [← hbH, ← hWr] at hP
  rw [← hW, ← hbH]
  have hW3 := hP
  clear hP hb hW hWr hW1 hbH s0 s1 s2 hgr
  have hc0 := HAT.out 0 (by omega) W3 hB3
  obtain ⟨x, hx⟩ : ∃ x, atF fs 0 = x := ⟨_, rfl⟩
  rw [hx] at hc0
  simp only [Nat.zero_mul, Nat.add_zero] at hc0
  obtain ⟨s0, s1, s2⟩ := hc0
  have HX := Lib.hid hx
  clear hx
  go_upto_region 6 with fail
  have hP := hW3.push (Below.refl _ _) (frc x) 24
  obtain ⟨bL, hbL⟩ : ∃ y, y = W3.heap.size := ⟨_, rfl⟩
  obtain ⟨W4, hW, hWr⟩ : ∃ W, W = W3.alloc (.cells #[.int .i64 x.re, .int .i64 x.im, .int .i64 x.den] 24) ∧ W = W3.alloc (.cells (frc x) 24) := ⟨_, rfl, rfl⟩
  have hB4 : Below w1.heap.size w1 W4 := by rw [hW]; exact hB3.alloc hB3.size _
  have hbL1 : w1.heap.size ≤ bL := by rw [hbL]; exact hB3.size
  have hHL : bH < bL := by rw [hbL]; exact blk_lt (hW3.top)
  rw [← hbL, ← hWr] at hP
  rw [← hW, ← hbL]
  have hW4 := hP
  clear hP hW hWr hW3 hbL s0 s1 s2 hB3
  go_upto_region 7 with fail
  go_loopw [37] (fun iv wr => ∃ k l : Nat, k ≤ 4 ∧ iv = .int .i64 k ∧ Hid (lst fs k = l) ∧ Below w1.heap.size w1 wr ∧ BW w [(bL, frc (atF fs l), 24), (bH, frc s, 24), (w.heap.size + 1, frc Z3, 24), (w.heap.size, jc v, 26)] wr) (fun iv _ => 4 - (intOf iv).toNat)
  case atStart => exact ⟨0, 0, by omega, rfl, Lib.hid rfl, hB4, by rw [HX.out]; exact hW4⟩
  case round =>
    clear hW4 hB4
    obtain ⟨k, l, hk, rfl, hl, hb, hQ⟩ := hrel
    have hzw := hb.size
    have hzq := hQ.B.size
    have hkw : IntKind.i64.wrap ((k : Int) + 1) = (k : Int) + 1 := IntWalk.i64_in _ (by omega)
    obtain ⟨y, hy⟩ : ∃ y, atF fs l = y := ⟨_, rfl⟩
    rw [hy] at hQ
    have HY := Lib.hid hy
    clear hy
    by_cases hkl : k < 4
    · have hl4 : l < 4 := by have h1 := lst_lt fs k; rw [hl.out] at h1; omega
      have hki : (k : Int) < 4 := by omega
      have hlen4 := HLN.out
      have hrx : realOk (atF fs k) = true := atF_real HRR.out (by omega)
      have hry : realOk y = true := by rw [← HY.out]; exact atF_real HRR.out (by omega)
      obtain ⟨x', hx'⟩ : ∃ x', atF fs k = x' := ⟨_, rfl⟩
      have hc0 := HAT.out k hkl wr hb
      rw [hx'] at hc0 hrx
      obtain ⟨s0, s1, s2⟩ := hc0
      obtain ⟨n, hn⟩ : ∃ n, cmpV x' y = n := ⟨_, rfl⟩
      have hlt' : lst fs (k + 1) = if n < 0 then k else l := by rw [lst, hx', hl.out, HY.out, hn]
      have HN2 := Lib.hid hn
      have HLS := Lib.hid hlt'
      have HXX := Lib.hid hx'
      have hnb := cmpV_bd x' y
      rw [hn] at hnb
      clear hx' hn hlt' hlen4
      go_upto_region 9 with fail
      obtain ⟨bx, hbx⟩ : ∃ y, y = wr.heap.size := ⟨_, rfl⟩
      obtain ⟨W5, hW, hQ5, hX5, hB5⟩ : ∃ W, W = wr.alloc (.cells #[.int .i64 x'.re, .int .i64 x'.im, .int .i64 x'.den] 24) ∧ BW w [(bL, frc y, 24), (bH, frc s, 24), (w.heap.size + 1, frc Z3, 24), (w.heap.size, jc v, 26)] W ∧ Blk W bx (frc x') 24 ∧ Below w1.heap.size w1 W :=
        ⟨_, rfl, hQ.step ((Below.refl _ _).alloc (Nat.le_refl _) _), by rw [hbx]; exact heap_alloc_last wr _, hb.alloc hb.size _⟩
      have hLx : bL < bx := by rw [hbx]; exact blk_lt hQ.top
      rw [← hW, ← hbx]
      clear hW hbx hQ hb s0 s1 s2 hzw hzq
      obtain ⟨x0, x1, x2⟩ := blk_fr0 hX5
      obtain ⟨y0, y1, y2⟩ := blk_fr0 hQ5.top
      go_upto_region 10 with (first | (go_at_call 16; (with_reducible refine (compare_n x' y n _ hrx hry HN2).mono ?_); rintro e w6 ⟨rfl, hb⟩))
      have hX6 := (hb.block _ (blk_lt hX5)).trans hX5
      have hQ6 := hQ5.step hb
      have hB6 := bstep hB5 hb hB5.size
      have hzw := hB6.size
      have hzq := hQ6.B.size
      clear hb hQ5 hX5 hB5 x0 x1 x2 y0 y1 y2 hrx hry
      obtain ⟨x0, x1, x2⟩ := blk_fr0 hX6
      obtain ⟨y0, y1, y2⟩ := blk_fr0 hQ6.top
      have hyf := blk_free0 hQ6.top
      have hyl := blk_lt hQ6.top
      have hlo := hQ6.lo _ (by simp : (bL, frc y, 24) ∈ _)
      by_cases h0 : n < 0
      · have hQ7 : BW w [(bL, frc x', 24), (bH, frc s, 24), (w.heap.size + 1, frc Z3, 24), (w.heap.size, jc v, 26)] (((w6.setCell ⟨bL, 0, none⟩ (.int .i64 x'.re)).setCell ⟨bL, 1, none⟩ (.int .i64 x'.im)).setCell ⟨bL, 2, none⟩ (.int .i64 x'.den)) :=
          hQ6.set ((((Below.refl _ _).setCell hlo _).setCell hlo _).setCell hlo _) (fun c hc => (Below.heap_setCell _ _ _ c hc).trans ((Below.heap_setCell _ _ _ c hc).trans (Below.heap_setCell _ _ _ c hc))) (by simp [Blk, World.setCell, Array.getElem?_modify, hQ6.top, frc])
        have hB7 : Below w1.heap.size w1 (((w6.setCell ⟨bL, 0, none⟩ (.int .i64 x'.re)).setCell ⟨bL, 1, none⟩ (.int .i64 x'.im)).setCell ⟨bL, 2, none⟩ (.int .i64 x'.den)) := ((hB6.setCell hbL1 _).setCell hbL1 _).setCell hbL1 _
        clear hQ6 hX6 hB6
        go_wp2
        go_roundw
        case rel => exact ⟨k + 1, k, by omega, by go_num, Lib.hid (by rw [HLS.out, if_pos h0]), hB7, by rw [HXX.out]; exact hQ7⟩
        case measure => simp [intOf]; omega
      · clear hX6
        go_wp2
        go_roundw
        case rel => exact ⟨k + 1, l, by omega, by go_num, Lib.hid (by rw [HLS.out, if_neg h0]), hB6, by rw [HY.out]; exact hQ6⟩
        case measure => simp [intOf]; omega
    · obtain rfl : k = 4 := by omega
      have hyt : y = t := by rw [← HY.out, ← HT2.out, hl.out]
      subst hyt
      have hqs := hQ.qs
      obtain ⟨bs, hbs⟩ : ∃ y, y = wr.heap.size := ⟨_, rfl⟩
      have hLs : bL < bs := by rw [hbs]; exact blk_lt hQ.top
      rw [← hbs] at hqs
      clear hb hQ hzw hzq
      go_upto_region 14 with fail
      obtain ⟨W8, hW, hD0⟩ : ∃ W, W = wr.alloc (.cells #[.bool false] 70) ∧ QS w bs [(bL, frc y, 24), (bH, frc s, 24), (w.heap.size + 1, frc Z3, 24), (w.heap.size, jc v, 26)] false W := ⟨_, rfl, hqs⟩
      rw [← hW, ← hbs]
      have hH1 : w.heap.size + 1 < bH := by
        have h1 := hz1l
        omega
      clear hW hqs hbs
      have HSUB : Hid (∀ W bad, QS w (bs) [(bL, frc y, 24), (bH, frc s, 24), (w.heap.size + 1, frc Z3, 24), (w.heap.size, jc v, 26)] bad W → QSE w (bs) [(bH, frc s, 24), (bL, frc y, 24)] W) := Lib.hid (fun W bad h => ⟨_, h.sub (by intro q hq; simp only [List.mem_cons, List.not_mem_nil, or_false] at hq; rcases hq with rfl | rfl <;> simp)⟩)
      have HS : Hid (∀ W, QSE w (bs) [(bH, frc s, 24), (bL, frc y, 24)] W → (fun w' => w'.cell? ⟨bH, 0, none⟩ = some (.int .i64 s.re) ∧ w'.cell? ⟨bH, 1, none⟩ = some (.int .i64 s.im) ∧ w'.cell? ⟨bH, 2, none⟩ = some (.int .i64 s.den) ∧ w'.cell? ⟨bL, 0, none⟩ = some (.int .i64 y.re) ∧ w'.cell? ⟨bL, 1, none⟩ = some (.int .i64 y.im) ∧ w'.cell? ⟨bL, 2, none⟩ = some (.int .i64 y.den)) W) := Lib.hid (fun W hE => by
        obtain ⟨bad, h⟩ := hE
        obtain ⟨c00, c01, c02⟩ := blk_fr0 (f := s) (h.at (b := bH) (cs := frc s) (ty := 24) (by simp))
        obtain ⟨c10, c11, c12⟩ := blk_fr0 (f := y) (h.at (b := bL) (cs := frc y) (ty := 24) (by simp))
        exact ⟨c00, c01, c02, c10, c11, c12⟩)
      have HN : Hid (∀ q ∈ ([(bH, frc s, 24), (bL, frc y, 24)] : List (Nat × Array Value × TypeId)), q.1 ≠ w.heap.size + 1) := Lib.hid (by intro q hq; simp only [List.mem_cons, List.not_mem_nil, or_false] at hq; rcases hq with rfl | rfl <;> (first | (simp only; omega) | omega | (simp; omega)))
      go_region_held3 (fun w' => w'.cell? ⟨bH, 0, none⟩ = some (.int .i64 s.re) ∧ w'.cell? ⟨bH, 1, none⟩ = some (.int .i64 s.im) ∧ w'.cell? ⟨bH, 2, none⟩ = some (.int .i64 s.den) ∧ w'.cell? ⟨bL, 0, none⟩ = some (.int .i64 y.re) ∧ w'.cell? ⟨bL, 1, none⟩ = some (.int .i64 y.im) ∧ w'.cell? ⟨bL, 2, none⟩ = some (.int .i64 y.den)) (((refine HS.out _ ?_); (repeat' (first | (with_reducible assumption) | (with_reducible exact HSUB.out _ _ (by with_reducible assumption)) | (with_reducible apply QSE.alloc) | (with_reducible apply QSE.drewN) | (with_reducible apply QSE.drew) | ((with_reducible refine QSE.far ?_ ?_ ?_ ?_ _) <;> (first | (with_reducible exact HN.out) | (simp; done) | omega | (simp; omega) | skip)))))) (first | (go_at_call 62; (with_reducible refine (qs_less s y T (!p) hTN _ (by (repeat' (first | (with_reducible assumption) | (with_reducible apply QS.alloc) | (with_reducible apply QS.drewN) | (with_reducible apply QS.drew))))).mono ?_); rintro e wd ⟨rfl, hD⟩; have hBd := hD.B; have hld := hD.s.lt) | (go_at_call 56; (with_reducible refine (qs_add s y U (!q) hUN _ (by (repeat' (first | (with_reducible assumption) | (with_reducible apply QS.alloc) | (with_reducible apply QS.drewN) | (with_reducible apply QS.drew))))).mono ?_); rintro e wd ⟨rfl, hD⟩; have hBd := hD.B; have hld := hD.s.lt) | (go_at_call 61; (with_reducible refine (qs_over T U O (!u) hON hGP.z (by (repeat' (first | (with_reducible assumption) | (with_reducible apply QS.alloc) | (with_reducible apply QS.drewN) | (with_reducible apply QS.drew))))).mono ?_); rintro e wd ⟨rfl, hD⟩; have hBd := hD.B; have hld := hD.s.lt) | (go_at_call 57; (with_reducible refine (qs_gotF ⟨_, _, _⟩ _ (by (repeat' (first | (with_reducible assumption) | (with_reducible apply QS.alloc) | (with_reducible apply QS.drewN) | (with_reducible apply QS.drew))))).mono ?_); rintro e wd ⟨rfl, hD⟩; have hBd := hD.B; have hld := hD.s.lt; obtain ⟨r0, r1, r2⟩ := blk_fr0 (hD.at (b := w.heap.size + 1) (cs := frc Z3) (ty := 24) (by simp)); have rf := blk_free0 (hD.at (b := w.heap.size + 1) (cs := frc Z3) (ty := 24) (by simp))))
      have hv : frb N = .tuple #[frv (gotF ((((false || !p) || !q) || !u)) Z3 O), .bool (!(((false || !p) || !q) || !u))] := by
        rw [HGO.out]
        cases p <;> cases q <;> cases u <;> rfl
      all_goals (go_wp2; refine bodyPost_ret (v := .tuple #[frv (gotF ((((false || !p) || !q) || !u)) Z3 O), .bool (!(((false || !p) || !q) || !u))]) (by simp [results, Tryz.results25, gotF, go_sem, *]) rfl ⟨by rw [hv], by exact below_⟩)
end Go.Proofs.YtjbnkefeacineaaGreatDoor
