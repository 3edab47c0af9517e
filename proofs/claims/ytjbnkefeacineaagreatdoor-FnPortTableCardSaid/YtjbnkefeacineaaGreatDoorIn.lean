/-
  The walks of the four numbers of a vector, and of PortTable, program and reference.
-/
import Derived.Test.YtjbnkefeacineaaGreatDoorIk
import Derived.Test.YtjbnkefeacineaaGreatDoorTg
namespace Go.Proofs.YtjbnkefeacineaaGreatDoor
set_option linter.unusedSimpArgs false
set_option linter.unusedVariables false
open Go.RowKit
attribute [local go_sem ↓] Go.wp_at_zero Go.wp_at_succ
/-- Twice a part of a fraction. -/
def twiceI (n den : Int) : Option Fr := makeI (2 * n) 0 den
/-- The four numbers of a vector. -/
def stokesI (a : Jn) : Option Mt := (powerI a.x).bind fun x => (powerI a.y).bind fun y => (mirrorI a.y).bind fun m => (timesI a.x m).bind fun c => (addI x y).bind fun s => (lessI x y).bind fun l => (twiceI c.re c.den).bind fun re => (twiceI c.im c.den).bind fun im => some ⟨s, l, re, im⟩
theorem stokes_go {a : Jn} {P Q M C S L U V : Fr} {p1 q1 m1 c1 s1 l1 j1 k1 : Bool} (h0 : (powerI a.x).getD Z3 = P ∧ (powerI a.x).isSome = p1) (h1 : (powerI a.y).getD Z3 = Q ∧ (powerI a.y).isSome = q1) (h2 : (mirrorI a.y).getD Z3 = M ∧ (mirrorI a.y).isSome = m1) (h3 : (timesI a.x M).getD Z3 = C ∧ (timesI a.x M).isSome = c1) (h4 : (addI P Q).getD Z3 = S ∧ (addI P Q).isSome = s1) (h5 : (lessI P Q).getD Z3 = L ∧ (lessI P Q).isSome = l1) (h6 : (twiceI C.re C.den).getD Z3 = U ∧ (twiceI C.re C.den).isSome = j1) (h7 : (twiceI C.im C.den).getD Z3 = V ∧ (twiceI C.im C.den).isSome = k1) :
    stokesI a = if p1 && (q1 && (m1 && (c1 && (s1 && (l1 && (j1 && (k1))))))) then some ⟨S, L, U, V⟩ else none := by
  unfold stokesI
  cases g0 : powerI a.x with
  | none => rw [g0] at h0; obtain ⟨-, rfl⟩ := h0; rfl
  | some px =>
    rw [g0] at h0
    obtain ⟨e0, rfl⟩ := h0
    obtain rfl : px = P := e0
    rw [Option.bind_some]
    cases g1 : powerI a.y with
    | none => rw [g1] at h1; obtain ⟨-, rfl⟩ := h1; rfl
    | some qx =>
      rw [g1] at h1
      obtain ⟨e1, rfl⟩ := h1
      obtain rfl : qx = Q := e1
      rw [Option.bind_some]
      cases g2 : mirrorI a.y with
      | none => rw [g2] at h2; obtain ⟨-, rfl⟩ := h2; rfl
      | some mx =>
        rw [g2] at h2
        obtain ⟨e2, rfl⟩ := h2
        obtain rfl : mx = M := e2
        rw [Option.bind_some]
        cases g3 : timesI a.x mx with
        | none => rw [g3] at h3; obtain ⟨-, rfl⟩ := h3; rfl
        | some cx =>
          rw [g3] at h3
          obtain ⟨e3, rfl⟩ := h3
          obtain rfl : cx = C := e3
          rw [Option.bind_some]
          cases g4 : addI px qx with
          | none => rw [g4] at h4; obtain ⟨-, rfl⟩ := h4; rfl
          | some sx =>
            rw [g4] at h4
            obtain ⟨e4, rfl⟩ := h4
            obtain rfl : sx = S := e4
            rw [Option.bind_some]
            cases g5 : lessI px qx with
            | none => rw [g5] at h5; obtain ⟨-, rfl⟩ := h5; rfl
            | some lx =>
              rw [g5] at h5
              obtain ⟨e5, rfl⟩ := h5
              obtain rfl : lx = L := e5
              rw [Option.bind_some]
              cases g6 : twiceI cx.re cx.den with
              | none => rw [g6] at h6; obtain ⟨-, rfl⟩ := h6; rfl
              | some ux =>
                rw [g6] at h6
                obtain ⟨e6, rfl⟩ := h6
                obtain rfl : ux = U := e6
                rw [Option.bind_some]
                cases g7 : twiceI cx.im cx.den with
                | none => rw [g7] at h7; obtain ⟨-, rfl⟩ := h7; rfl
                | some vx =>
                  rw [g7] at h7
                  obtain ⟨e7, rfl⟩ := h7
                  obtain rfl : vx = V := e7
                  rw [Option.bind_some]
                  rfl
theorem lowI_cross {re im den x y d : Int} (h1 : 1 ≤ den) (hd : 1 ≤ d) (er : re * d = x * den) (ei : im * d = y * den) : lowI re im den = lowI x y d := by
  rw [← lowI_scale d re im den hd h1, ← lowI_scale den x y d h1 hd, Int.mul_comm d re, er, Int.mul_comm d im, ei, Int.mul_comm x den, Int.mul_comm y den, Int.mul_comm d den]
theorem twice_low {n den : Int} (hn : -2000000000 ≤ n ∧ n ≤ 2000000000) (hd : 1 ≤ den ∧ den ≤ 2000000000) : twiceI n den = lowI (2 * n) 0 den := by
  unfold twiceI makeI
  rw [show inB den 1 1000000000000000000 = true by rw [inB_iff]; omega, show inB (2 * n) (-1000000000000000000) 1000000000000000000 = true by rw [inB_iff]; omega, show inB 0 (-1000000000000000000) 1000000000000000000 = true by decide]
  rfl
theorem two_part {n den : Int} (hn : -2000000000 ≤ n ∧ n ≤ 2000000000) (hd : 1 ≤ den ∧ den ≤ 2000000000) : ∃ r, lowI n 0 den = some r ∧ timesI ⟨2, 0, 1⟩ r = twiceI n den := by
  obtain ⟨r, hr, hR⟩ := lowI_small n 0 den hd.1 hd.2 hn (by omega)
  refine ⟨r, hr, ?_⟩
  have hv := hR.ok
  have h1 := (fvalid_bd r hv).2.2
  rw [twice_low hn hd]
  unfold timesI
  rw [hv, show fvalid ⟨2, 0, 1⟩ = true by decide]
  show lowI (2 * r.re - 0 * r.im) (2 * r.im + 0 * r.re) (1 * r.den) = _
  have e1 := hR.re
  have e2 := hR.im
  refine lowI_cross (by omega) hd.1 ?_ ?_
  · have : (2 * r.re - 0 * r.im) * den = 2 * (r.re * den) := by rw [Int.zero_mul, Int.sub_zero, Int.mul_assoc]
    rw [this, e1, Int.one_mul, Int.mul_assoc]
  · have : (2 * r.im + 0 * r.re) * den = 2 * (r.im * den) := by rw [Int.zero_mul, Int.add_zero, Int.mul_assoc]
    rw [this, e2]
    simp
theorem two_real {c : Fr} (hc : fvalid c = true) : ∃ r, realI c = some r ∧ timesI ⟨2, 0, 1⟩ r = twiceI c.re c.den := by
  have h := fvalid_bd c hc
  unfold realI
  rw [if_pos hc]
  exact two_part h.1 h.2.2
theorem two_imag {c : Fr} (hc : fvalid c = true) : ∃ r, imagI c = some r ∧ timesI ⟨2, 0, 1⟩ r = twiceI c.im c.den := by
  have h := fvalid_bd c hc
  unfold imagI
  rw [if_pos hc]
  exact two_part h.2.1 h.2.2
theorem times_fvalid {a b c : Fr} (h : timesI a b = some c) : fvalid c = true := by
  unfold timesI at h
  cases ha : fvalid a
  · rw [ha] at h; simp at h
  · cases hb : fvalid b
    · rw [ha, hb] at h; simp at h
    · rw [ha, hb] at h
      simp only [Bool.and_self, if_true] at h
      have h1 := (fvalid_bd a ha).2.2
      have h2 := (fvalid_bd b hb).2.2
      exact (lowI_val (by have := Int.mul_le_mul h1.1 h2.1 (by omega) (by omega); omega) h).1
set_option maxRecDepth 100000 in
set_option maxHeartbeats 8000000 in
theorem stwice_any (n den : Int) (w : World) (hn : -2000000000 ≤ n ∧ n ≤ 2000000000) :
    Calls Tryz.prog 92 #[.int .i64 n, .int .i64 den] w fun e w' => e = .returned (frb (twiceI n den)) ∧ Below w.heap.size w w' := by
  obtain ⟨q, ok, hq⟩ : ∃ q ok, (twiceI n den).getD Z3 = q ∧ (twiceI n den).isSome = ok := ⟨_, _, rfl, rfl⟩
  have hcon : ∀ W, Calls Tryz.prog 122 #[.int .i64 (2 * n), .int .i64 0, .int .i64 den] W fun e w' => e = .returned (.tuple #[frv q, .bool ok]) ∧ Below W.heap.size W w' := fun W => by
    rw [← hq.1, ← hq.2]; exact smake_any (2 * n) 0 den W
  have hw : IntKind.i64.wrap (2 * n) = 2 * n := IntWalk.i64_in _ (by omega)
  have hw2 : wrap64 (2 * n) = 2 * n := by unfold wrap64; omega
  have HQ := Lib.hid hq
  clear hq
  go_enter Tryz.func92, Tryz.ntmps92
  go_wp2_with (first | (go_at_call 122; (with_reducible refine (hcon _).mono ?_); rintro e w1 ⟨rfl, hb⟩; obtain ⟨hc, hf⟩ := bf hb (w.heap.size + 1) (by simp); have hB : Below w.heap.size w w1 := bstep (by exact below_) hb (by simp); have hz := hb.size; simp only [World.size_alloc] at hz; clear hb))
  exact bodyPost_ret (v := .tuple #[frv q, .bool ok]) (by simp [results, Tryz.results92, go_sem, *]) rfl ⟨by rw [← HQ.out.1, ← HQ.out.2], by exact below_⟩
theorem stwice_m (n den : Int) (q : Fr) (ok : Bool) (w : World) (hn : -2000000000 ≤ n ∧ n ≤ 2000000000) (e : Hid ((twiceI n den).getD Z3 = q ∧ (twiceI n den).isSome = ok)) :
    Calls Tryz.prog 92 #[.int .i64 n, .int .i64 den] w fun e w' => e = .returned (.tuple #[frv q, .bool ok]) ∧ Below w.heap.size w w' := by
  rw [← e.out.1, ← e.out.2]; exact stwice_any n den w hn
theorem stimes_m (a b q : Fr) (ok : Bool) (w : World) (e : Hid ((timesI a b).getD Z3 = q ∧ (timesI a b).isSome = ok)) : Calls Tryz.prog 91 #[frv a, frv b] w fun e w' => e = .returned (.tuple #[frv q, .bool ok]) ∧ Below w.heap.size w w' := by
  rw [← e.out.1, ← e.out.2]; exact stimes_any a b w
theorem saddS_m (a b q : Fr) (ok : Bool) (w : World) (e : Hid ((addI a b).getD Z3 = q ∧ (addI a b).isSome = ok)) : Calls Tryz.prog 64 #[frv a, frv b] w fun e w' => e = .returned (.tuple #[frv q, .bool ok]) ∧ Below w.heap.size w w' := by
  rw [← e.out.1, ← e.out.2]; exact sadd_any a b w
theorem sless_m (a b q : Fr) (ok : Bool) (w : World) (e : Hid ((lessI a b).getD Z3 = q ∧ (lessI a b).isSome = ok)) : Calls Tryz.prog 63 #[frv a, frv b] w fun e w' => e = .returned (.tuple #[frv q, .bool ok]) ∧ Below w.heap.size w w' := by
  rw [← e.out.1, ← e.out.2]; exact sless_any a b w
theorem spower_m (a q : Fr) (ok : Bool) (w : World) (e : Hid ((powerI a).getD Z3 = q ∧ (powerI a).isSome = ok)) : Calls Tryz.prog 89 #[frv a] w fun e w' => e = .returned (.tuple #[frv q, .bool ok]) ∧ Below w.heap.size w w' := by
  rw [← e.out.1, ← e.out.2]; exact spower_any a w
theorem smirror_m (a q : Fr) (ok : Bool) (w : World) (e : Hid ((mirrorI a).getD Z3 = q ∧ (mirrorI a).isSome = ok)) : Calls Tryz.prog 90 #[frv a] w fun e w' => e = .returned (.tuple #[frv q, .bool ok]) ∧ Below w.heap.size w w' := by
  rw [← e.out.1, ← e.out.2]; exact smirror_any a w
set_option maxRecDepth 100000 in
set_option maxHeartbeats 8000000 in
theorem sstokes_any (a : Jn) (w : World) :
    Calls Tryz.prog 52 #[jnv a] w fun e w' => e = .returned (mtb (stokesI a)) ∧ Below w.heap.size w w' := by
  obtain ⟨P, p1, h0⟩ : ∃ q1 ok1, (powerI a.x).getD Z3 = q1 ∧ (powerI a.x).isSome = ok1 := ⟨_, _, rfl, rfl⟩
  obtain ⟨Q, q1, h1⟩ : ∃ q1 ok1, (powerI a.y).getD Z3 = q1 ∧ (powerI a.y).isSome = ok1 := ⟨_, _, rfl, rfl⟩
  obtain ⟨M, m1, h2⟩ : ∃ q1 ok1, (mirrorI a.y).getD Z3 = q1 ∧ (mirrorI a.y).isSome = ok1 := ⟨_, _, rfl, rfl⟩
  obtain ⟨C, c1, h3⟩ : ∃ q1 ok1, (timesI a.x M).getD Z3 = q1 ∧ (timesI a.x M).isSome = ok1 := ⟨_, _, rfl, rfl⟩
  obtain ⟨S, s1, h4⟩ : ∃ q1 ok1, (addI P Q).getD Z3 = q1 ∧ (addI P Q).isSome = ok1 := ⟨_, _, rfl, rfl⟩
  obtain ⟨L, l1, h5⟩ : ∃ q1 ok1, (lessI P Q).getD Z3 = q1 ∧ (lessI P Q).isSome = ok1 := ⟨_, _, rfl, rfl⟩
  obtain ⟨U, j1, h6⟩ : ∃ q1 ok1, (twiceI C.re C.den).getD Z3 = q1 ∧ (twiceI C.re C.den).isSome = ok1 := ⟨_, _, rfl, rfl⟩
  obtain ⟨V, k1, h7⟩ : ∃ q1 ok1, (twiceI C.im C.den).getD Z3 = q1 ∧ (twiceI C.im C.den).isSome = ok1 := ⟨_, _, rfl, rfl⟩
  have hgo := stokes_go h0 h1 h2 h3 h4 h5 h6 h7
  obtain ⟨R, hR⟩ : ∃ R, stokesI a = R := ⟨_, rfl⟩
  rw [hR] at hgo ⊢
  have HR := Lib.hid hgo
  have H0 := Lib.hid h0
  have H1 := Lib.hid h1
  have H2 := Lib.hid h2
  have H3 := Lib.hid h3
  have H4 := Lib.hid h4
  have H5 := Lib.hid h5
  have H6 := Lib.hid h6
  have H7 := Lib.hid h7
  clear h0 h1 h2 h3 h4 h5 h6 h7 hgo
  clear hR
  go_enter Tryz.func52, Tryz.ntmps52
  obtain ⟨W0, hW, hW0⟩ : ∃ W, W = (w.alloc (.cells #[.int .i64 a.x.re, .int .i64 a.x.im, .int .i64 a.x.den, .int .i64 a.y.re, .int .i64 a.y.im, .int .i64 a.y.den] 26)).alloc (.cells #[.int .i64 0, .int .i64 0, .int .i64 0, .int .i64 0, .int .i64 0, .int .i64 0, .int .i64 0, .int .i64 0, .int .i64 0, .int .i64 0, .int .i64 0, .int .i64 0] 40) ∧ BW w [(w.heap.size + 1, mtc Z12, 40), (w.heap.size, jc a, 26)] W := by
    refine ⟨_, rfl, ?_⟩
    have h1 := BW.one w (jc a) 26
    have h2 := h1.push (Below.refl _ _) (mtc Z12) 40
    simp only [World.size_alloc] at h2
    exact h2
  go_upto_region 1 with fail
  rw [← hW]
  clear hW
  obtain ⟨q00, q01, q02, q03, q04, q05⟩ := (blk_j (a := a) (hW0.at (b := w.heap.size) (cs := jc a) (t := 26) (by simp))).1
  have q0l := blk_lt (hW0.at (b := w.heap.size) (cs := jc a) (t := 26) (by simp))
  go_upto_region 2 with (first | (go_at_call 89; (with_reducible refine (spower_m a.x P p1 _ H0).mono ?_); rintro e v1 ⟨rfl, hb⟩))
  have hP := hW0.push hb (frc P) 24
  obtain ⟨bP, hbb⟩ : ∃ b, b = v1.heap.size := ⟨_, rfl⟩
  have hbu := hb.size
  obtain ⟨W1, hW, hWr⟩ : ∃ W, W = v1.alloc (.cells #[.int .i64 P.re, .int .i64 P.im, .int .i64 P.den] 24) ∧ W = v1.alloc (.cells (frc P) 24) := ⟨_, rfl, rfl⟩
  rw [← hbb, ← hWr] at hP
  rw [← hbb] at hbu
  rw [← hW, ← hbb]
  have hW1 := hP
  clear hP hb hW hWr hW0
  clear hbb hbu
  clear q00 q01 q02 q03 q04 q05 q0l
  obtain ⟨q00, q01, q02, q03, q04, q05⟩ := (blk_j (a := a) (hW1.at (b := w.heap.size) (cs := jc a) (t := 26) (by simp))).1
  have q0l := blk_lt (hW1.at (b := w.heap.size) (cs := jc a) (t := 26) (by simp))
  go_upto_region 3 with (first | (go_at_call 89; (with_reducible refine (spower_m a.y Q q1 _ H1).mono ?_); rintro e v2 ⟨rfl, hb⟩))
  have hP := hW1.push hb (frc Q) 24
  obtain ⟨bQ, hbb⟩ : ∃ b, b = v2.heap.size := ⟨_, rfl⟩
  have hbu := hb.size
  obtain ⟨W2, hW, hWr⟩ : ∃ W, W = v2.alloc (.cells #[.int .i64 Q.re, .int .i64 Q.im, .int .i64 Q.den] 24) ∧ W = v2.alloc (.cells (frc Q) 24) := ⟨_, rfl, rfl⟩
  rw [← hbb, ← hWr] at hP
  rw [← hbb] at hbu
  rw [← hW, ← hbb]
  have hW2 := hP
  clear hP hb hW hWr hW1
  clear hbb hbu
  clear q00 q01 q02 q03 q04 q05 q0l
  obtain ⟨q00, q01, q02, q03, q04, q05⟩ := (blk_j (a := a) (hW2.at (b := w.heap.size) (cs := jc a) (t := 26) (by simp))).1
  have q0l := blk_lt (hW2.at (b := w.heap.size) (cs := jc a) (t := 26) (by simp))
  go_upto_region 4 with (first | (go_at_call 90; (with_reducible refine (smirror_m a.y M m1 _ H2).mono ?_); rintro e v3 ⟨rfl, hb⟩))
  have hP := hW2.push hb (frc M) 24
  obtain ⟨bM, hbb⟩ : ∃ b, b = v3.heap.size := ⟨_, rfl⟩
  have hbu := hb.size
  obtain ⟨W3, hW, hWr⟩ : ∃ W, W = v3.alloc (.cells #[.int .i64 M.re, .int .i64 M.im, .int .i64 M.den] 24) ∧ W = v3.alloc (.cells (frc M) 24) := ⟨_, rfl, rfl⟩
  rw [← hbb, ← hWr] at hP
  rw [← hbb] at hbu
  rw [← hW, ← hbb]
  have hW3 := hP
  clear hP hb hW hWr hW2
  clear hbb hbu
  clear q00 q01 q02 q03 q04 q05 q0l
  cases p1
  · skip
    obtain ⟨q10, q11, q12, q13, q14, q15, q16, q17, q18, q19, q110, q111⟩ := blk_mt (m := Z12) (hW3.at (b := w.heap.size + 1) (cs := mtc Z12) (t := 40) (by simp))
    have q1l := blk_lt (hW3.at (b := w.heap.size + 1) (cs := mtc Z12) (t := 40) (by simp))
    have q1f := blk_free0 (hW3.at (b := w.heap.size + 1) (cs := mtc Z12) (t := 40) (by simp))
    have hBF := hW3.B
    go_wp2
    exact bodyPost_ret (v := mtb none) (by simp [results, Tryz.results52, go_sem, *]) rfl ⟨by rw [HR.out]; rfl, by exact below_⟩
  cases q1
  · skip
    obtain ⟨q10, q11, q12, q13, q14, q15, q16, q17, q18, q19, q110, q111⟩ := blk_mt (m := Z12) (hW3.at (b := w.heap.size + 1) (cs := mtc Z12) (t := 40) (by simp))
    have q1l := blk_lt (hW3.at (b := w.heap.size + 1) (cs := mtc Z12) (t := 40) (by simp))
    have q1f := blk_free0 (hW3.at (b := w.heap.size + 1) (cs := mtc Z12) (t := 40) (by simp))
    have hBF := hW3.B
    go_wp2
    exact bodyPost_ret (v := mtb none) (by simp [results, Tryz.results52, go_sem, *]) rfl ⟨by rw [HR.out]; rfl, by exact below_⟩
  cases m1
  · skip
    obtain ⟨q10, q11, q12, q13, q14, q15, q16, q17, q18, q19, q110, q111⟩ := blk_mt (m := Z12) (hW3.at (b := w.heap.size + 1) (cs := mtc Z12) (t := 40) (by simp))
    have q1l := blk_lt (hW3.at (b := w.heap.size + 1) (cs := mtc Z12) (t := 40) (by simp))
    have q1f := blk_free0 (hW3.at (b := w.heap.size + 1) (cs := mtc Z12) (t := 40) (by simp))
    have hBF := hW3.B
    go_wp2
    exact bodyPost_ret (v := mtb none) (by simp [results, Tryz.results52, go_sem, *]) rfl ⟨by rw [HR.out]; rfl, by exact below_⟩
  obtain ⟨q00, q01, q02, q03, q04, q05⟩ := (blk_j (a := a) (hW3.at (b := w.heap.size) (cs := jc a) (t := 26) (by simp))).1
  have q0l := blk_lt (hW3.at (b := w.heap.size) (cs := jc a) (t := 26) (by simp))
  obtain ⟨q40, q41, q42⟩ := blk_fr0 (f := M) (hW3.at (b := bM) (cs := frc M) (t := 24) (by simp))
  have q4l := blk_lt (hW3.at (b := bM) (cs := frc M) (t := 24) (by simp))
  go_upto_region 7 with (first | (go_at_call 91; (with_reducible refine (stimes_m a.x M C c1 _ H3).mono ?_); rintro e v4 ⟨rfl, hb⟩))
  have hP := hW3.push hb (frc C) 24
  obtain ⟨bC, hbb⟩ : ∃ b, b = v4.heap.size := ⟨_, rfl⟩
  have hbu := hb.size
  obtain ⟨W4, hW, hWr⟩ : ∃ W, W = v4.alloc (.cells #[.int .i64 C.re, .int .i64 C.im, .int .i64 C.den] 24) ∧ W = v4.alloc (.cells (frc C) 24) := ⟨_, rfl, rfl⟩
  rw [← hbb, ← hWr] at hP
  rw [← hbb] at hbu
  rw [← hW, ← hbb]
  have hW4 := hP
  clear hP hb hW hWr hW3
  clear hbb hbu
  clear q00 q01 q02 q03 q04 q05 q0l q40 q41 q42 q4l
  obtain ⟨q20, q21, q22⟩ := blk_fr0 (f := P) (hW4.at (b := bP) (cs := frc P) (t := 24) (by simp))
  have q2l := blk_lt (hW4.at (b := bP) (cs := frc P) (t := 24) (by simp))
  obtain ⟨q30, q31, q32⟩ := blk_fr0 (f := Q) (hW4.at (b := bQ) (cs := frc Q) (t := 24) (by simp))
  have q3l := blk_lt (hW4.at (b := bQ) (cs := frc Q) (t := 24) (by simp))
  go_upto_region 8 with (first | (go_at_call 64; (with_reducible refine (saddS_m P Q S s1 _ H4).mono ?_); rintro e v5 ⟨rfl, hb⟩))
  have hP := hW4.push hb (frc S) 24
  obtain ⟨bS, hbb⟩ : ∃ b, b = v5.heap.size := ⟨_, rfl⟩
  have hbu := hb.size
  obtain ⟨W5, hW, hWr⟩ : ∃ W, W = v5.alloc (.cells #[.int .i64 S.re, .int .i64 S.im, .int .i64 S.den] 24) ∧ W = v5.alloc (.cells (frc S) 24) := ⟨_, rfl, rfl⟩
  rw [← hbb, ← hWr] at hP
  rw [← hbb] at hbu
  rw [← hW, ← hbb]
  have hW5 := hP
  clear hP hb hW hWr hW4
  clear hbb hbu
  clear q20 q21 q22 q2l q30 q31 q32 q3l
  obtain ⟨q20, q21, q22⟩ := blk_fr0 (f := P) (hW5.at (b := bP) (cs := frc P) (t := 24) (by simp))
  have q2l := blk_lt (hW5.at (b := bP) (cs := frc P) (t := 24) (by simp))
  obtain ⟨q30, q31, q32⟩ := blk_fr0 (f := Q) (hW5.at (b := bQ) (cs := frc Q) (t := 24) (by simp))
  have q3l := blk_lt (hW5.at (b := bQ) (cs := frc Q) (t := 24) (by simp))
  go_upto_region 9 with (first | (go_at_call 63; (with_reducible refine (sless_m P Q L l1 _ H5).mono ?_); rintro e v6 ⟨rfl, hb⟩))
  have hP := hW5.push hb (frc L) 24
  obtain ⟨bL, hbb⟩ : ∃ b, b = v6.heap.size := ⟨_, rfl⟩
  have hbu := hb.size
  obtain ⟨W6, hW, hWr⟩ : ∃ W, W = v6.alloc (.cells #[.int .i64 L.re, .int .i64 L.im, .int .i64 L.den] 24) ∧ W = v6.alloc (.cells (frc L) 24) := ⟨_, rfl, rfl⟩
  rw [← hbb, ← hWr] at hP
  rw [← hbb] at hbu
  rw [← hW, ← hbb]
  have hW6 := hP
  clear hP hb hW hWr hW5
  clear hbb hbu
  clear q20 q21 q22 q2l q30 q31 q32 q3l
  cases c1
  · skip
    obtain ⟨q10, q11, q12, q13, q14, q15, q16, q17, q18, q19, q110, q111⟩ := blk_mt (m := Z12) (hW6.at (b := w.heap.size + 1) (cs := mtc Z12) (t := 40) (by simp))
    have q1l := blk_lt (hW6.at (b := w.heap.size + 1) (cs := mtc Z12) (t := 40) (by simp))
    have q1f := blk_free0 (hW6.at (b := w.heap.size + 1) (cs := mtc Z12) (t := 40) (by simp))
    have hBF := hW6.B
    go_wp2
    exact bodyPost_ret (v := mtb none) (by simp [results, Tryz.results52, go_sem, *]) rfl ⟨by rw [HR.out]; rfl, by exact below_⟩
  cases s1
  · skip
    obtain ⟨q10, q11, q12, q13, q14, q15, q16, q17, q18, q19, q110, q111⟩ := blk_mt (m := Z12) (hW6.at (b := w.heap.size + 1) (cs := mtc Z12) (t := 40) (by simp))
    have q1l := blk_lt (hW6.at (b := w.heap.size + 1) (cs := mtc Z12) (t := 40) (by simp))
    have q1f := blk_free0 (hW6.at (b := w.heap.size + 1) (cs := mtc Z12) (t := 40) (by simp))
    have hBF := hW6.B
    go_wp2
    exact bodyPost_ret (v := mtb none) (by simp [results, Tryz.results52, go_sem, *]) rfl ⟨by rw [HR.out]; rfl, by exact below_⟩
  cases l1
  · skip
    obtain ⟨q10, q11, q12, q13, q14, q15, q16, q17, q18, q19, q110, q111⟩ := blk_mt (m := Z12) (hW6.at (b := w.heap.size + 1) (cs := mtc Z12) (t := 40) (by simp))
    have q1l := blk_lt (hW6.at (b := w.heap.size + 1) (cs := mtc Z12) (t := 40) (by simp))
    have q1f := blk_free0 (hW6.at (b := w.heap.size + 1) (cs := mtc Z12) (t := 40) (by simp))
    have hBF := hW6.B
    go_wp2
    exact bodyPost_ret (v := mtb none) (by simp [results, Tryz.results52, go_sem, *]) rfl ⟨by rw [HR.out]; rfl, by exact below_⟩
  have hcv : fvalid C = true := by
    have h3 := H3.out
    cases h4 : timesI a.x M with
    | none => rw [h4] at h3; cases h3.2
    | some c => rw [h4] at h3; rw [← h3.1]; exact times_fvalid h4
  have hcb := fvalid_bd C hcv
  have hcr := hcb.1
  have hci := hcb.2.1
  clear hcb hcv
  obtain ⟨q50, q51, q52⟩ := blk_fr0 (f := C) (hW6.at (b := bC) (cs := frc C) (t := 24) (by simp))
  have q5l := blk_lt (hW6.at (b := bC) (cs := frc C) (t := 24) (by simp))
  go_upto_region 12 with (first | (go_at_call 92; (with_reducible refine (stwice_m C.re C.den U j1 _ hcr H6).mono ?_); rintro e v7 ⟨rfl, hb⟩))
  have hP := hW6.push hb (frc U) 24
  obtain ⟨bU, hbb⟩ : ∃ b, b = v7.heap.size := ⟨_, rfl⟩
  have hbu := hb.size
  obtain ⟨W7, hW, hWr⟩ : ∃ W, W = v7.alloc (.cells #[.int .i64 U.re, .int .i64 U.im, .int .i64 U.den] 24) ∧ W = v7.alloc (.cells (frc U) 24) := ⟨_, rfl, rfl⟩
  rw [← hbb, ← hWr] at hP
  rw [← hbb] at hbu
  rw [← hW, ← hbb]
  have hW7 := hP
  clear hP hb hW hWr hW6
  clear hbb hbu
  clear q50 q51 q52 q5l
  obtain ⟨q50, q51, q52⟩ := blk_fr0 (f := C) (hW7.at (b := bC) (cs := frc C) (t := 24) (by simp))
  have q5l := blk_lt (hW7.at (b := bC) (cs := frc C) (t := 24) (by simp))
  go_upto_region 13 with (first | (go_at_call 92; (with_reducible refine (stwice_m C.im C.den V k1 _ hci H7).mono ?_); rintro e v8 ⟨rfl, hb⟩))
  have hP := hW7.push hb (frc V) 24
  obtain ⟨bV, hbb⟩ : ∃ b, b = v8.heap.size := ⟨_, rfl⟩
  have hbu := hb.size
  obtain ⟨W8, hW, hWr⟩ : ∃ W, W = v8.alloc (.cells #[.int .i64 V.re, .int .i64 V.im, .int .i64 V.den] 24) ∧ W = v8.alloc (.cells (frc V) 24) := ⟨_, rfl, rfl⟩
  rw [← hbb, ← hWr] at hP
  rw [← hbb] at hbu
  rw [← hW, ← hbb]
  have hW8 := hP
  clear hP hb hW hWr hW7
  clear hbb hbu
  clear q50 q51 q52 q5l
  cases j1
  · skip
    obtain ⟨q10, q11, q12, q13, q14, q15, q16, q17, q18, q19, q110, q111⟩ := blk_mt (m := Z12) (hW8.at (b := w.heap.size + 1) (cs := mtc Z12) (t := 40) (by simp))
    have q1l := blk_lt (hW8.at (b := w.heap.size + 1) (cs := mtc Z12) (t := 40) (by simp))
    have q1f := blk_free0 (hW8.at (b := w.heap.size + 1) (cs := mtc Z12) (t := 40) (by simp))
    have hBF := hW8.B
    go_wp2
    exact bodyPost_ret (v := mtb none) (by simp [results, Tryz.results52, go_sem, *]) rfl ⟨by rw [HR.out]; rfl, by exact below_⟩
  cases k1
  · skip
    obtain ⟨q10, q11, q12, q13, q14, q15, q16, q17, q18, q19, q110, q111⟩ := blk_mt (m := Z12) (hW8.at (b := w.heap.size + 1) (cs := mtc Z12) (t := 40) (by simp))
    have q1l := blk_lt (hW8.at (b := w.heap.size + 1) (cs := mtc Z12) (t := 40) (by simp))
    have q1f := blk_free0 (hW8.at (b := w.heap.size + 1) (cs := mtc Z12) (t := 40) (by simp))
    have hBF := hW8.B
    go_wp2
    exact bodyPost_ret (v := mtb none) (by simp [results, Tryz.results52, go_sem, *]) rfl ⟨by rw [HR.out]; rfl, by exact below_⟩
  obtain ⟨q10, q11, q12, q13, q14, q15, q16, q17, q18, q19, q110, q111⟩ := blk_mt (m := Z12) (hW8.at (b := w.heap.size + 1) (cs := mtc Z12) (t := 40) (by simp))
  have q1l := blk_lt (hW8.at (b := w.heap.size + 1) (cs := mtc Z12) (t := 40) (by simp))
  have q1f := blk_free0 (hW8.at (b := w.heap.size + 1) (cs := mtc Z12) (t := 40) (by simp))
  obtain ⟨q60, q61, q62⟩ := blk_fr0 (f := S) (hW8.at (b := bS) (cs := frc S) (t := 24) (by simp))
  have q6l := blk_lt (hW8.at (b := bS) (cs := frc S) (t := 24) (by simp))
  obtain ⟨q70, q71, q72⟩ := blk_fr0 (f := L) (hW8.at (b := bL) (cs := frc L) (t := 24) (by simp))
  have q7l := blk_lt (hW8.at (b := bL) (cs := frc L) (t := 24) (by simp))
  obtain ⟨q80, q81, q82⟩ := blk_fr0 (f := U) (hW8.at (b := bU) (cs := frc U) (t := 24) (by simp))
  have q8l := blk_lt (hW8.at (b := bU) (cs := frc U) (t := 24) (by simp))
  obtain ⟨q90, q91, q92⟩ := blk_fr0 (f := V) (hW8.at (b := bV) (cs := frc V) (t := 24) (by simp))
  have q9l := blk_lt (hW8.at (b := bV) (cs := frc V) (t := 24) (by simp))
  have hBF := hW8.B
  go_wp2
  exact bodyPost_ret (v := mtb (some ⟨S, L, U, V⟩)) (by simp [results, Tryz.results52, go_sem, *]) rfl ⟨by rw [HR.out]; rfl, by exact below_⟩
/-- The four numbers at a port. -/
def tableI (a b : List UInt8) (k : Int) (v : Jn) : Option Mt := (portI a b k v false).bind stokesI
theorem sstokes_m (a : Jn) (m : Mt) (ok : Bool) (w : World) (e : Hid ((stokesI a).getD Z12 = m ∧ (stokesI a).isSome = ok)) : Calls Tryz.prog 52 #[jnv a] w fun e w' => e = .returned (.tuple #[mtv m, .bool ok]) ∧ Below w.heap.size w w' := by
  rw [← e.out.1, ← e.out.2]; exact sstokes_any a w
theorem table_go {a b : List UInt8} {k : Int} {v X : Jn} {p : Bool} (hX : (portI a b k v false).getD Z6 = X ∧ (portI a b k v false).isSome = p) : tableI a b k v = if p then stokesI X else none := by
  unfold tableI
  cases h1 : portI a b k v false with
  | none => rw [h1] at hX; obtain ⟨-, rfl⟩ := hX; rfl
  | some x =>
    rw [h1] at hX
    obtain ⟨e1, rfl⟩ := hX
    obtain rfl : x = X := e1
    rfl
set_option maxRecDepth 100000 in
set_option maxHeartbeats 8000000 in
theorem stable_any (a b : ByteArray) (k : Int) (v : Jn) (w : World) :
    Calls Tryz.prog 19 #[.string a, .string b, .int .i64 k, jnv v] w fun e w' => e = .returned (mtb (tableI a.data.toList b.data.toList k v)) ∧ Below w.heap.size w w' := by
  obtain ⟨X, p, hX⟩ : ∃ X p, (portI a.data.toList b.data.toList k v false).getD Z6 = X ∧ (portI a.data.toList b.data.toList k v false).isSome = p := ⟨_, _, rfl, rfl⟩
  obtain ⟨m, ok, hm⟩ : ∃ m ok, (stokesI X).getD Z12 = m ∧ (stokesI X).isSome = ok := ⟨_, _, rfl, rfl⟩
  obtain ⟨R, hR⟩ : ∃ R, tableI a.data.toList b.data.toList k v = R := ⟨_, rfl⟩
  have hgo := table_go hX
  rw [hR] at hgo ⊢
  have HR := Lib.hid hgo
  have HX := Lib.hid hX
  have HM := Lib.hid hm
  clear hX hm hR hgo
  go_enter Tryz.func19, Tryz.ntmps19
  obtain ⟨W0, hW, hW0⟩ : ∃ W, W = (w.alloc (.cells #[.int .i64 v.x.re, .int .i64 v.x.im, .int .i64 v.x.den, .int .i64 v.y.re, .int .i64 v.y.im, .int .i64 v.y.den] 26)).alloc (.cells #[.int .i64 0, .int .i64 0, .int .i64 0, .int .i64 0, .int .i64 0, .int .i64 0, .int .i64 0, .int .i64 0, .int .i64 0, .int .i64 0, .int .i64 0, .int .i64 0] 40) ∧ BW w [(w.heap.size + 1, mtc Z12, 40), (w.heap.size, jc v, 26)] W := by
    refine ⟨_, rfl, ?_⟩
    have h1 := BW.one w (jc v) 26
    have h2 := h1.push (Below.refl _ _) (mtc Z12) 40
    simp only [World.size_alloc] at h2
    exact h2
  go_upto_region 1 with fail
  rw [← hW]
  clear hW
  obtain ⟨q00, q01, q02, q03, q04, q05⟩ := (blk_j (a := v) (hW0.at (b := w.heap.size) (cs := jc v) (t := 26) (by simp))).1
  have q0l := blk_lt (hW0.at (b := w.heap.size) (cs := jc v) (t := 26) (by simp))
  go_upto_region 2 with (first | (go_at_call 30; (with_reducible refine (sport_m a b k v false X p _ HX).mono ?_); rintro e v1 ⟨rfl, hb⟩))
  have hP := hW0.push hb (jc X) 26
  obtain ⟨bX, hbb⟩ : ∃ b, b = v1.heap.size := ⟨_, rfl⟩
  have hbu := hb.size
  obtain ⟨W1, hW, hWr⟩ : ∃ W, W = v1.alloc (.cells #[.int .i64 X.x.re, .int .i64 X.x.im, .int .i64 X.x.den, .int .i64 X.y.re, .int .i64 X.y.im, .int .i64 X.y.den] 26) ∧ W = v1.alloc (.cells (jc X) 26) := ⟨_, rfl, rfl⟩
  rw [← hbb, ← hWr] at hP
  rw [← hbb] at hbu
  rw [← hW, ← hbb]
  have hW1 := hP
  clear hP hb hW hWr hW0
  clear hbb hbu
  clear q00 q01 q02 q03 q04 q05 q0l
  cases p
  · skip
    obtain ⟨q10, q11, q12, q13, q14, q15, q16, q17, q18, q19, q110, q111⟩ := blk_mt (m := Z12) (hW1.at (b := w.heap.size + 1) (cs := mtc Z12) (t := 40) (by simp))
    have q1l := blk_lt (hW1.at (b := w.heap.size + 1) (cs := mtc Z12) (t := 40) (by simp))
    have q1f := blk_free0 (hW1.at (b := w.heap.size + 1) (cs := mtc Z12) (t := 40) (by simp))
    have hBF := hW1.B
    go_wp2
    exact bodyPost_ret (v := mtb none) (by simp [results, Tryz.results19, go_sem, *]) rfl ⟨by rw [HR.out]; rfl, by exact below_⟩
  obtain ⟨q10, q11, q12, q13, q14, q15, q16, q17, q18, q19, q110, q111⟩ := blk_mt (m := Z12) (hW1.at (b := w.heap.size + 1) (cs := mtc Z12) (t := 40) (by simp))
  have q1l := blk_lt (hW1.at (b := w.heap.size + 1) (cs := mtc Z12) (t := 40) (by simp))
  have q1f := blk_free0 (hW1.at (b := w.heap.size + 1) (cs := mtc Z12) (t := 40) (by simp))
  obtain ⟨q20, q21, q22, q23, q24, q25⟩ := (blk_j (a := X) (hW1.at (b := bX) (cs := jc X) (t := 26) (by simp))).1
  have q2l := blk_lt (hW1.at (b := bX) (cs := jc X) (t := 26) (by simp))
  have hBF := hW1.B
  go_wp2_with (first | (go_at_call 52; (with_reducible refine (sstokes_m X m ok _ HM).mono ?_); rintro e w9 ⟨rfl, hb⟩; have hQ := hW1.step hb; have hR := hQ.at (b := w.heap.size + 1) (cs := mtc Z12) (t := 40) (by simp); have hRf := blk_free0 hR; obtain ⟨y0, y1, y2, y3, y4, y5, y6, y7, y8, y9, y10, y11⟩ := blk_mt hR; have hRl := blk_lt hR; have hBF := hQ.B; clear hb))
  exact bodyPost_ret (v := .tuple #[mtv m, .bool ok]) (by simp [results, Tryz.results19, mtv, go_sem, *]) rfl ⟨by rw [HR.out, ← HM.out.1, ← HM.out.2]; rfl, by exact below_⟩
end Go.Proofs.YtjbnkefeacineaaGreatDoor
