/-
  The walks of PortSeen, program and reference.
-/
import Derived.Test.YtjbnkefeacineaaGreatDoorIl
import Derived.Test.YtjbnkefeacineaaGreatDoorIm
import Derived.Test.YtjbnkefeacineaaGreatDoorRu
namespace Go.Proofs.YtjbnkefeacineaaGreatDoor
set_option linter.unusedSimpArgs false
set_option linter.unusedVariables false
open Go.RowKit
attribute [local go_sem ↓] Go.wp_at_zero Go.wp_at_succ
theorem atF_mem {fs : List Fr} {k : Nat} (h : k < fs.length) : fs[k]? = some (atF fs k) := by
  unfold atF
  rw [List.getD, List.getElem?_eq_getElem h]
  rfl
theorem seen_no {a b : List UInt8} {v : Jn} (h : fringesI a b v = none) : seenI a b v = none := by
  unfold seenI
  rw [h]
  rfl
theorem seen_go {a b : List UInt8} {v : Jn} {fs : List Fr} {s t T U O : Fr} {p q u : Bool} (h : fringesI a b v = some fs) (hs : atF fs (grt fs 4) = s) (ht : atF fs (lst fs 4) = t)
    (hT : (lessI s t).getD Z3 = T ∧ (lessI s t).isSome = p) (hU : (addI s t).getD Z3 = U ∧ (addI s t).isSome = q) (hO : (overI T U).getD Z3 = O ∧ (overI T U).isSome = u) :
    seenI a b v = if p && (q && u) then some O else none := by
  unfold seenI
  rw [h, Option.bind_some, hs, ht]
  cases h1 : lessI s t with
  | none => rw [h1] at hT; obtain ⟨-, rfl⟩ := hT; rfl
  | some x =>
    rw [h1] at hT
    obtain ⟨e1, rfl⟩ := hT
    obtain rfl : x = T := e1
    rw [Option.bind_some]
    cases h2 : addI s t with
    | none => rw [h2] at hU; obtain ⟨-, rfl⟩ := hU; rfl
    | some y =>
      rw [h2] at hU
      obtain ⟨e2, rfl⟩ := hU
      obtain rfl : y = U := e2
      rw [Option.bind_some]
      cases h3 : overI x y with
      | none => rw [h3] at hO; obtain ⟨-, rfl⟩ := hO; rfl
      | some z =>
        rw [h3] at hO
        obtain ⟨e3, rfl⟩ := hO
        obtain rfl : z = O := e3
        rfl
theorem sless_mS (a b q : Fr) (ok : Bool) (w : World) (e : Hid ((lessI a b).getD Z3 = q ∧ (lessI a b).isSome = ok)) : Calls Tryz.prog 63 #[frv a, frv b] w fun e w' => e = .returned (.tuple #[frv q, .bool ok]) ∧ Below w.heap.size w w' := by
  rw [← e.out.1, ← e.out.2]; exact sless_any a b w
theorem sover_m (a b q : Fr) (ok : Bool) (w : World) (e : Hid ((overI a b).getD Z3 = q ∧ (overI a b).isSome = ok)) : Calls Tryz.prog 65 #[frv a, frv b] w fun e w' => e = .returned (.tuple #[frv q, .bool ok]) ∧ Below w.heap.size w w' := by
  rw [← e.out.1, ← e.out.2]; exact sover_any a b w
set_option maxRecDepth 100000 in
set_option maxHeartbeats 8000000 in
theorem sseen_any (a b : ByteArray) (v : Jn) (w : World) :
    Calls Tryz.prog 26 #[.string a, .string b, jnv v] w fun e w' => e = .returned (frb (seenI a.data.toList b.data.toList v)) ∧ Below w.heap.size w w' := by
  obtain ⟨R, hR⟩ : ∃ R, fringesI a.data.toList b.data.toList v = R := ⟨_, rfl⟩
  obtain ⟨N, hN⟩ : ∃ N, seenI a.data.toList b.data.toList v = N := ⟨_, rfl⟩
  obtain ⟨ok, hok⟩ : ∃ ok, R.isSome = ok := ⟨_, rfl⟩
  rw [hN]
  have HR := Lib.hid hR
  have HN := Lib.hid hN
  have HOK := Lib.hid hok
  clear hN hR hok
  go_enter Tryz.func26, Tryz.ntmps26
  obtain ⟨W0, hW, hW0⟩ : ∃ W, W = (w.alloc (.cells #[.int .i64 v.x.re, .int .i64 v.x.im, .int .i64 v.x.den, .int .i64 v.y.re, .int .i64 v.y.im, .int .i64 v.y.den] 26)).alloc (.cells #[.int .i64 0, .int .i64 0, .int .i64 0] 24) ∧ BW w [(w.heap.size + 1, frc Z3, 24), (w.heap.size, jc v, 26)] W := by
    refine ⟨_, rfl, ?_⟩
    have h1 := BW.one w (jc v) 26
    have h2 := h1.push (Below.refl _ _) (frc Z3) 24
    simp only [World.size_alloc] at h2
    exact h2
  go_upto_region 1 with fail
  rw [← hW]
  clear hW
  obtain ⟨q00, q01, q02, q03, q04, q05⟩ := (blk_j (a := v) (hW0.at (b := w.heap.size) (cs := jc v) (t := 26) (by simp))).1
  have q0l := blk_lt (hW0.at (b := w.heap.size) (cs := jc v) (t := 26) (by simp))
  have hfr := sfringes_any a b v W0
  rw [HR.out, HOK.out] at hfr
  go_upto_region 2 with (first | (go_at_call 41; (with_reducible refine hfr.mono ?_); rintro e w1 ⟨lv, rfl, hO, hb⟩))
  have hW1 := hW0.step hb
  clear hfr hb hW0 q00 q01 q02 q03 q04 q05 q0l
  cases ok
  · skip
    have he : N = none := by
      rw [← HN.out]
      refine seen_no ?_
      rw [HR.out]
      have := HOK.out
      cases R with
      | none => rfl
      | some fs => cases this
    subst he
    clear hO
    obtain ⟨q10, q11, q12⟩ := blk_fr0 (f := Z3) (hW1.at (b := w.heap.size + 1) (cs := frc Z3) (t := 24) (by simp))
    have q1l := blk_lt (hW1.at (b := w.heap.size + 1) (cs := frc Z3) (t := 24) (by simp))
    have q1f := blk_free0 (hW1.at (b := w.heap.size + 1) (cs := frc Z3) (t := 24) (by simp))
    have hBF := hW1.B
    go_wp2
    exact bodyPost_ret (v := frb none) (by simp [results, Tryz.results26, go_sem, *]) rfl ⟨rfl, by exact below_⟩
  obtain ⟨fs, hfs⟩ := Option.isSome_iff_exists.1 HOK.out
  subst hfs
  obtain ⟨hl, hrr⟩ := fringes_real HR.out
  have HRR := Lib.hid (fun f hf => (hrr f hf).1)
  obtain ⟨A1, c1, hv1, hF1⟩ := hO.frs
  subst hv1
  simp only [Option.getD_some] at hF1
  rw [hl] at hF1
  have HLN := Lib.hid hl
  have hlen : ((some fs : Option (List Fr)).getD []).length = 4 := hl
  rw [hlen]
  have hcap := hF1.2.1
  have hcm := hF1.2.2.1
  have hj4 : grt fs 4 < 4 := by have := grt_lt fs 4; omega
  have hl4 : lst fs 4 < 4 := by have := lst_lt fs 4; omega
  obtain ⟨s, hs⟩ : ∃ s, atF fs (grt fs 4) = s := ⟨_, rfl⟩
  obtain ⟨t, ht⟩ : ∃ t, atF fs (lst fs 4) = t := ⟨_, rfl⟩
  obtain ⟨T, p, hT⟩ : ∃ q1 ok1, (lessI s t).getD Z3 = q1 ∧ (lessI s t).isSome = ok1 := ⟨_, _, rfl, rfl⟩
  obtain ⟨U, q, hU⟩ : ∃ q1 ok1, (addI s t).getD Z3 = q1 ∧ (addI s t).isSome = ok1 := ⟨_, _, rfl, rfl⟩
  obtain ⟨O, u, hov⟩ : ∃ q1 ok1, (overI T U).getD Z3 = q1 ∧ (overI T U).isSome = ok1 := ⟨_, _, rfl, rfl⟩
  have hgo := seen_go HR.out hs ht hT hU hov
  rw [HN.out] at hgo
  have HGO := Lib.hid hgo
  have HT := Lib.hid hT
  have HU := Lib.hid hU
  have HO := Lib.hid hov
  have HS := Lib.hid hs
  have HT2 := Lib.hid ht
  clear hgo hT hU hov hs ht hrr hO hlen hl
  obtain ⟨jn, hjn⟩ : ∃ n, grt fs 4 = n := ⟨_, rfl⟩
  obtain ⟨ln, hln⟩ : ∃ n, lst fs 4 = n := ⟨_, rfl⟩
  have hen := fun W hF => ends_any A1 c1 fs W hF HRR.out
  rw [hjn] at hj4 hen
  rw [hln] at hl4 hen
  have HJN := Lib.hid hjn
  have HLNN := Lib.hid hln
  clear hjn hln
  go_upto_region 5 with (first | (go_at_call 47; (with_reducible refine (hen _ hF1).mono ?_); rintro e w2 ⟨rfl, hb⟩))
  have hW2 := hW1.step hb
  obtain ⟨bb, off, s2, t2, rfl, hs2, ht2, hbb, hc⟩ := two_at hF1 hb hj4 hl4
  obtain rfl : s = s2 := by rw [← HS.out, HJN.out]; exact atF_of hs2
  obtain rfl : t = t2 := by rw [← HT2.out, HLNN.out]; exact atF_of ht2
  have HC := Lib.hid hc
  have hji : (jn : Int) < 4 := by omega
  have hli : (ln : Int) < 4 := by omega
  clear hs2 ht2 hc hW1 hen hb hF1
  go_upto_region 5 with fail
  go_cut [12, 13] from 31 to 42 (fun s5 s6 wx => ∃ bT, s5 = .pointer (some ⟨bT, 0, none⟩) ∧ s6 = .bool p ∧ (wx.cell? ⟨bT, 0, none⟩ = some (.int .i64 T.re) ∧ wx.cell? ⟨bT, 1, none⟩ = some (.int .i64 T.im) ∧ wx.cell? ⟨bT, 2, none⟩ = some (.int .i64 T.den)) ∧ w2.heap.size ≤ bT ∧ Below w2.heap.size w2 wx)
  case first =>
    have HSS : Hid (∀ W', Below w2.heap.size w2 W' → (fun w' => w'.cell? ⟨bb, off + jn * 3, none⟩ = some (.int .i64 s.re) ∧ w'.cell? ⟨bb, off + jn * 3 + 1, none⟩ = some (.int .i64 s.im) ∧ w'.cell? ⟨bb, off + jn * 3 + 2, none⟩ = some (.int .i64 s.den) ∧ w'.cell? ⟨bb, off + ln * 3, none⟩ = some (.int .i64 t.re) ∧ w'.cell? ⟨bb, off + ln * 3 + 1, none⟩ = some (.int .i64 t.im) ∧ w'.cell? ⟨bb, off + ln * 3 + 2, none⟩ = some (.int .i64 t.den)) W') := Lib.hid (fun W' hb => by
      obtain ⟨⟨s0, s1, s2⟩, t0, t1, t2⟩ := HC.out W' hb
      exact ⟨s0, s1, s2, t0, t1, t2⟩)
    go_region_held3 (fun w' => w'.cell? ⟨bb, off + jn * 3, none⟩ = some (.int .i64 s.re) ∧ w'.cell? ⟨bb, off + jn * 3 + 1, none⟩ = some (.int .i64 s.im) ∧ w'.cell? ⟨bb, off + jn * 3 + 2, none⟩ = some (.int .i64 s.den) ∧ w'.cell? ⟨bb, off + ln * 3, none⟩ = some (.int .i64 t.re) ∧ w'.cell? ⟨bb, off + ln * 3 + 1, none⟩ = some (.int .i64 t.im) ∧ w'.cell? ⟨bb, off + ln * 3 + 2, none⟩ = some (.int .i64 t.den)) (((refine HSS.out _ ?_); ((repeat' (first | (with_reducible exact Below.refl _ _) | (with_reducible assumption) | (with_reducible refine Below.setCell ?_ (by first | omega | (simp; done) | (simp; omega)) _) | (with_reducible refine Below.alloc ?_ (by first | omega | (simp; done) | (simp; omega)) _) | (with_reducible refine below_drewN ?_ _) | (with_reducible refine Below.drew ?_)))))) (first | (go_at_call 63; (with_reducible refine (sless_mS s t T p _ HT).mono ?_); rintro e w1 ⟨rfl, hb⟩; obtain ⟨hc, hf⟩ := bf hb (w2.heap.size) side_; have hs := hb.size; (try simp only [World.size_alloc, World.size_setCell, World.size_drew, World.heap_drewN] at hs); have hl : w2.heap.size ≤ w1.heap.size := (by omega); obtain ⟨B, hBe, hBl, hc2, hf2⟩ := bfA hb; (try simp only [World.size_alloc, World.size_setCell, World.size_drew, World.heap_drewN] at hBe); have hB : Below w2.heap.size w2 w1 := bstep (by exact below_) hb side_; clear hs hb))
    all_goals (go_wp2; go_meet; exact ⟨_, rfl, rfl, (by refine ⟨?_, ?_, ?_⟩ <;> (first | (with_reducible exact World.cell?_alloc_at _ _ _ _ rfl) | (simp [go_sem, *]; done))), (by first | omega | (simp; omega)), by exact below_⟩)
  case rest =>
    obtain ⟨bT, rfl, rfl, ⟨x0, x1, x2⟩, hbT, hBp⟩ := hcut
    rename World => wo
    have hxl : bT < wo.heap.size := World.block_lt_of_cell? _ _ x0
    go_upto_region 6 with fail
    go_cut [14, 15] from 43 to 54 (fun s5 s6 wx => ∃ bU, s5 = .pointer (some ⟨bU, 0, none⟩) ∧ s6 = .bool q ∧ (wx.cell? ⟨bU, 0, none⟩ = some (.int .i64 U.re) ∧ wx.cell? ⟨bU, 1, none⟩ = some (.int .i64 U.im) ∧ wx.cell? ⟨bU, 2, none⟩ = some (.int .i64 U.den)) ∧ wo.heap.size ≤ bU ∧ Below wo.heap.size wo wx)
    case first =>
      have HSS : Hid (∀ W', Below wo.heap.size wo W' → (fun w' => w'.cell? ⟨bb, off + jn * 3, none⟩ = some (.int .i64 s.re) ∧ w'.cell? ⟨bb, off + jn * 3 + 1, none⟩ = some (.int .i64 s.im) ∧ w'.cell? ⟨bb, off + jn * 3 + 2, none⟩ = some (.int .i64 s.den) ∧ w'.cell? ⟨bb, off + ln * 3, none⟩ = some (.int .i64 t.re) ∧ w'.cell? ⟨bb, off + ln * 3 + 1, none⟩ = some (.int .i64 t.im) ∧ w'.cell? ⟨bb, off + ln * 3 + 2, none⟩ = some (.int .i64 t.den)) W') := Lib.hid (fun W' hb => by
        obtain ⟨⟨s0, s1, s2⟩, t0, t1, t2⟩ := HC.out W' (bstep hBp hb hBp.size)
        exact ⟨s0, s1, s2, t0, t1, t2⟩)
      go_region_held3 (fun w' => w'.cell? ⟨bb, off + jn * 3, none⟩ = some (.int .i64 s.re) ∧ w'.cell? ⟨bb, off + jn * 3 + 1, none⟩ = some (.int .i64 s.im) ∧ w'.cell? ⟨bb, off + jn * 3 + 2, none⟩ = some (.int .i64 s.den) ∧ w'.cell? ⟨bb, off + ln * 3, none⟩ = some (.int .i64 t.re) ∧ w'.cell? ⟨bb, off + ln * 3 + 1, none⟩ = some (.int .i64 t.im) ∧ w'.cell? ⟨bb, off + ln * 3 + 2, none⟩ = some (.int .i64 t.den)) (((refine HSS.out _ ?_); ((repeat' (first | (with_reducible exact Below.refl _ _) | (with_reducible assumption) | (with_reducible refine Below.setCell ?_ (by first | omega | (simp; done) | (simp; omega)) _) | (with_reducible refine Below.alloc ?_ (by first | omega | (simp; done) | (simp; omega)) _) | (with_reducible refine below_drewN ?_ _) | (with_reducible refine Below.drew ?_)))))) (first | (go_at_call 64; (with_reducible refine (sadd_m s t U q _ HU).mono ?_); rintro e w1 ⟨rfl, hb⟩; obtain ⟨hc, hf⟩ := bf hb (wo.heap.size) side_; have hs := hb.size; (try simp only [World.size_alloc, World.size_setCell, World.size_drew, World.heap_drewN] at hs); have hl : wo.heap.size ≤ w1.heap.size := (by omega); obtain ⟨B, hBe, hBl, hc2, hf2⟩ := bfA hb; (try simp only [World.size_alloc, World.size_setCell, World.size_drew, World.heap_drewN] at hBe); have hB : Below wo.heap.size wo w1 := bstep (by exact below_) hb side_; clear hs hb))
      all_goals (go_wp2; go_meet; exact ⟨_, rfl, rfl, (by refine ⟨?_, ?_, ?_⟩ <;> (first | (with_reducible exact World.cell?_alloc_at _ _ _ _ rfl) | (simp [go_sem, *]; done))), (by first | omega | (simp; omega)), by exact below_⟩)
    case rest =>
      obtain ⟨bU, rfl, rfl, ⟨y0, y1, y2⟩, hbU, hBq⟩ := hcut
      rename World => wz
      have z0 : wz.cell? ⟨bT, 0, none⟩ = some (.int .i64 T.re) := (hBq.cell (p := ⟨_, _, _⟩) hxl).trans x0
      have z1 : wz.cell? ⟨bT, 1, none⟩ = some (.int .i64 T.im) := (hBq.cell (p := ⟨_, _, _⟩) hxl).trans x1
      have z2 : wz.cell? ⟨bT, 2, none⟩ = some (.int .i64 T.den) := (hBq.cell (p := ⟨_, _, _⟩) hxl).trans x2
      have hW3 := (hW2.step hBp).step hBq
      clear x0 x1 x2 hBp hBq hW2 HC
      cases p
      · skip
        obtain ⟨q10, q11, q12⟩ := blk_fr0 (f := Z3) (hW3.at (b := w.heap.size + 1) (cs := frc Z3) (t := 24) (by simp))
        have q1l := blk_lt (hW3.at (b := w.heap.size + 1) (cs := frc Z3) (t := 24) (by simp))
        have q1f := blk_free0 (hW3.at (b := w.heap.size + 1) (cs := frc Z3) (t := 24) (by simp))
        have hBF := hW3.B
        go_wp2
        exact bodyPost_ret (v := frb none) (by simp [results, Tryz.results26, go_sem, *]) rfl ⟨by rw [HGO.out]; rfl, by exact below_⟩
      cases q
      · skip
        obtain ⟨q10, q11, q12⟩ := blk_fr0 (f := Z3) (hW3.at (b := w.heap.size + 1) (cs := frc Z3) (t := 24) (by simp))
        have q1l := blk_lt (hW3.at (b := w.heap.size + 1) (cs := frc Z3) (t := 24) (by simp))
        have q1f := blk_free0 (hW3.at (b := w.heap.size + 1) (cs := frc Z3) (t := 24) (by simp))
        have hBF := hW3.B
        go_wp2
        exact bodyPost_ret (v := frb none) (by simp [results, Tryz.results26, go_sem, *]) rfl ⟨by rw [HGO.out]; rfl, by exact below_⟩
      obtain ⟨q10, q11, q12⟩ := blk_fr0 (f := Z3) (hW3.at (b := w.heap.size + 1) (cs := frc Z3) (t := 24) (by simp))
      have q1l := blk_lt (hW3.at (b := w.heap.size + 1) (cs := frc Z3) (t := 24) (by simp))
      have q1f := blk_free0 (hW3.at (b := w.heap.size + 1) (cs := frc Z3) (t := 24) (by simp))
      have hBF := hW3.B
      go_wp2_with (first | (go_at_call 65; (with_reducible refine (sover_m T U O u _ HO).mono ?_); rintro e w9 ⟨rfl, hb⟩; have hQ := hW3.step hb; have hR := hQ.at (b := w.heap.size + 1) (cs := frc Z3) (t := 24) (by simp); have hRf := blk_free0 hR; obtain ⟨r0, r1, r2⟩ := blk_fr0 hR; have hRl := blk_lt hR; have hBF := hQ.B; clear hb))
      have hv : frb N = .tuple #[frv O, .bool u] := by
        rw [HGO.out]
        cases u
        · have h1 := HO.out
          cases h2 : overI T U with
          | none => rw [h2] at h1; obtain ⟨rfl, -⟩ := h1; rfl
          | some x => rw [h2] at h1; cases h1.2
        · rfl
      exact bodyPost_ret (v := .tuple #[frv O, .bool u]) (by simp [results, Tryz.results26, go_sem, *]) rfl ⟨by rw [hv], by exact below_⟩
end Go.Proofs.YtjbnkefeacineaaGreatDoor
