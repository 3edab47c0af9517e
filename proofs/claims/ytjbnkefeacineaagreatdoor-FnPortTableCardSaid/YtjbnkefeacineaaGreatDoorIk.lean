/-
  The walks of PortPowers, program and reference.
-/
import Derived.Test.YtjbnkefeacineaaGreatDoorJe
import Derived.Test.YtjbnkefeacineaaGreatDoorJf
namespace Go.Proofs.YtjbnkefeacineaaGreatDoor
set_option linter.unusedSimpArgs false
set_option linter.unusedVariables false
open Go.RowKit
attribute [local go_sem ↓] Go.wp_at_zero Go.wp_at_succ
/-- Both powers, as results. -/
def pw1 (o : Option (Fr × Fr)) : Fr := (o.map (·.1)).getD Z3
def pw2 (o : Option (Fr × Fr)) : Fr := (o.map (·.2)).getD Z3
/-- What the calls of PortPowers make, put together. -/
theorem powers_go {a b : List UInt8} {k : Int} {v X Y : Jn} {M N : Fr} {p q r t : Bool} (hX : (portI a b k v false).getD Z6 = X ∧ (portI a b k v false).isSome = p) (hY : (portI a b k v true).getD Z6 = Y ∧ (portI a b k v true).isSome = q)
    (hM : (jpowerI X).getD Z3 = M ∧ (jpowerI X).isSome = r) (hN : (jpowerI Y).getD Z3 = N ∧ (jpowerI Y).isSome = t) : powersI a b k v = if p && (q && (r && t)) then some (M, N) else none := by
  unfold powersI
  cases h1 : portI a b k v false with
  | none => rw [h1] at hX; obtain ⟨-, rfl⟩ := hX; rfl
  | some x =>
    rw [h1] at hX
    obtain ⟨e1, rfl⟩ := hX
    obtain rfl : x = X := e1
    cases h2 : portI a b k v true with
    | none => rw [h2] at hY; obtain ⟨-, rfl⟩ := hY; rfl
    | some y =>
      rw [h2] at hY
      obtain ⟨e2, rfl⟩ := hY
      obtain rfl : y = Y := e2
      rw [Option.bind_some, Option.bind_some]
      cases h3 : jpowerI x with
      | none => rw [h3] at hM; obtain ⟨-, rfl⟩ := hM; rfl
      | some m =>
        rw [h3] at hM
        obtain ⟨e3, rfl⟩ := hM
        obtain rfl : m = M := e3
        rw [Option.bind_some]
        cases h4 : jpowerI y with
        | none => rw [h4] at hN; obtain ⟨-, rfl⟩ := hN; rfl
        | some n =>
          rw [h4] at hN
          obtain ⟨e4, rfl⟩ := hN
          obtain rfl : n = N := e4
          rfl
set_option maxRecDepth 100000 in
set_option maxHeartbeats 8000000 in
theorem spowers_any (a b : ByteArray) (k : Int) (v : Jn) (w : World) (A B : Fr) (ok : Bool) (e0 : Hid (pw1 (powersI a.data.toList b.data.toList k v) = A ∧ pw2 (powersI a.data.toList b.data.toList k v) = B ∧ (powersI a.data.toList b.data.toList k v).isSome = ok)) :
    Calls Tryz.prog 34 #[.string a, .string b, .int .i64 k, jnv v] w fun e w' => e = .returned (.tuple #[frv A, frv B, .bool ok]) ∧ Below w.heap.size w w' := by
  obtain ⟨X, p, hX⟩ : ∃ X p, (portI a.data.toList b.data.toList k v false).getD Z6 = X ∧ (portI a.data.toList b.data.toList k v false).isSome = p := ⟨_, _, rfl, rfl⟩
  obtain ⟨Y, q, hY⟩ : ∃ X p, (portI a.data.toList b.data.toList k v true).getD Z6 = X ∧ (portI a.data.toList b.data.toList k v true).isSome = p := ⟨_, _, rfl, rfl⟩
  obtain ⟨M, r, hM⟩ : ∃ F q, (jpowerI X).getD Z3 = F ∧ (jpowerI X).isSome = q := ⟨_, _, rfl, rfl⟩
  obtain ⟨N, t, hN⟩ : ∃ F q, (jpowerI Y).getD Z3 = F ∧ (jpowerI Y).isSome = q := ⟨_, _, rfl, rfl⟩
  have HR := Lib.hid (powers_go hX hY hM hN)
  have HX := Lib.hid hX
  have HY := Lib.hid hY
  have HM := Lib.hid hM
  have HN := Lib.hid hN
  clear hX hY hM hN
  go_enter Tryz.func34, Tryz.ntmps34
  obtain ⟨W0, hW, hW0⟩ : ∃ W, W = ((w.alloc (.cells #[.int .i64 v.x.re, .int .i64 v.x.im, .int .i64 v.x.den, .int .i64 v.y.re, .int .i64 v.y.im, .int .i64 v.y.den] 26)).alloc (.cells #[.int .i64 0, .int .i64 0, .int .i64 0] 24)).alloc (.cells #[.int .i64 0, .int .i64 0, .int .i64 0] 24) ∧ BW w [(w.heap.size + 1 + 1, frc Z3, 24), (w.heap.size + 1, frc Z3, 24), (w.heap.size, jc v, 26)] W := by
    refine ⟨_, rfl, ?_⟩
    have h1 := BW.one w (jc v) 26
    have h2 := h1.push (Below.refl _ _) (frc Z3) 24
    simp only [World.size_alloc] at h2
    have h3 := h2.push (Below.refl _ _) (frc Z3) 24
    simp only [World.size_alloc] at h3
    exact h3
  go_upto_region 1 with fail
  rw [← hW]
  clear hW
  obtain ⟨q00, q01, q02, q03, q04, q05⟩ := (blk_j (a := v) (hW0.at (b := w.heap.size) (cs := jc v) (t := 26) (by simp))).1
  have q0l := blk_lt (hW0.at (b := w.heap.size) (cs := jc v) (t := 26) (by simp))
  go_upto_region 2 with (first | (go_at_call 30; (with_reducible refine (sport_m a b k v false X p _ HX).mono ?_); rintro e v1 ⟨rfl, hb⟩))
  have hP := hW0.push hb (jc X) 26
  obtain ⟨bX, hbb⟩ : ∃ b, b = v1.heap.size := ⟨_, rfl⟩
  have hbu := hb.size
  obtain ⟨W1, hW, hWr⟩ : ∃ W, W = v1.alloc (.cells #[.int .i64 X.x.re, .int .i64 X.x.im, .int .i64 X.x.den, .int .i64 X.y.re, .int .i64 X.y.im, .int .i64 X.y.den] 26) ∧ W = v1.alloc (.cells (jc X) 26) := ⟨_, rfl, rfl⟩
  rw [← hbb, ← hWr] at hP
  rw [← hbb] at hbu
  rw [← hW, ← hbb]
  have hW1 := hP
  clear hP hb hW hWr hW0
  clear hbb hbu
  clear q00 q01 q02 q03 q04 q05 q0l
  obtain ⟨q00, q01, q02, q03, q04, q05⟩ := (blk_j (a := v) (hW1.at (b := w.heap.size) (cs := jc v) (t := 26) (by simp))).1
  have q0l := blk_lt (hW1.at (b := w.heap.size) (cs := jc v) (t := 26) (by simp))
  go_upto_region 3 with (first | (go_at_call 30; (with_reducible refine (sport_m a b k v true Y q _ HY).mono ?_); rintro e v2 ⟨rfl, hb⟩))
  have hP := hW1.push hb (jc Y) 26
  obtain ⟨bY, hbb⟩ : ∃ b, b = v2.heap.size := ⟨_, rfl⟩
  have hbu := hb.size
  obtain ⟨W2, hW, hWr⟩ : ∃ W, W = v2.alloc (.cells #[.int .i64 Y.x.re, .int .i64 Y.x.im, .int .i64 Y.x.den, .int .i64 Y.y.re, .int .i64 Y.y.im, .int .i64 Y.y.den] 26) ∧ W = v2.alloc (.cells (jc Y) 26) := ⟨_, rfl, rfl⟩
  rw [← hbb, ← hWr] at hP
  rw [← hbb] at hbu
  rw [← hW, ← hbb]
  have hW2 := hP
  clear hP hb hW hWr hW1
  clear hbb hbu
  clear q00 q01 q02 q03 q04 q05 q0l
  cases p
  · skip
    obtain ⟨q10, q11, q12⟩ := blk_fr0 (f := Z3) (hW2.at (b := w.heap.size + 1) (cs := frc Z3) (t := 24) (by simp))
    have q1l := blk_lt (hW2.at (b := w.heap.size + 1) (cs := frc Z3) (t := 24) (by simp))
    have q1f := blk_free0 (hW2.at (b := w.heap.size + 1) (cs := frc Z3) (t := 24) (by simp))
    obtain ⟨q20, q21, q22⟩ := blk_fr0 (f := Z3) (hW2.at (b := w.heap.size + 1 + 1) (cs := frc Z3) (t := 24) (by simp))
    have q2l := blk_lt (hW2.at (b := w.heap.size + 1 + 1) (cs := frc Z3) (t := 24) (by simp))
    have q2f := blk_free0 (hW2.at (b := w.heap.size + 1 + 1) (cs := frc Z3) (t := 24) (by simp))
    have hBF := hW2.B
    have hr := HR.out
    have hA := e0.out
    rw [show powersI a.data.toList b.data.toList k v = none from hr] at hA
    obtain ⟨rfl, rfl, rfl⟩ := hA
    clear hr
    go_wp2
    exact bodyPost_ret (v := .tuple #[frv Z3, frv Z3, .bool false]) (by simp [results, Tryz.results34, pw1, pw2, go_sem, *]) rfl ⟨by simp [pw1, pw2], by exact below_⟩
  cases q
  · skip
    obtain ⟨q10, q11, q12⟩ := blk_fr0 (f := Z3) (hW2.at (b := w.heap.size + 1) (cs := frc Z3) (t := 24) (by simp))
    have q1l := blk_lt (hW2.at (b := w.heap.size + 1) (cs := frc Z3) (t := 24) (by simp))
    have q1f := blk_free0 (hW2.at (b := w.heap.size + 1) (cs := frc Z3) (t := 24) (by simp))
    obtain ⟨q20, q21, q22⟩ := blk_fr0 (f := Z3) (hW2.at (b := w.heap.size + 1 + 1) (cs := frc Z3) (t := 24) (by simp))
    have q2l := blk_lt (hW2.at (b := w.heap.size + 1 + 1) (cs := frc Z3) (t := 24) (by simp))
    have q2f := blk_free0 (hW2.at (b := w.heap.size + 1 + 1) (cs := frc Z3) (t := 24) (by simp))
    have hBF := hW2.B
    have hr := HR.out
    have hA := e0.out
    rw [show powersI a.data.toList b.data.toList k v = none from hr] at hA
    obtain ⟨rfl, rfl, rfl⟩ := hA
    clear hr
    go_wp2
    exact bodyPost_ret (v := .tuple #[frv Z3, frv Z3, .bool false]) (by simp [results, Tryz.results34, pw1, pw2, go_sem, *]) rfl ⟨by simp [pw1, pw2], by exact below_⟩
  obtain ⟨q30, q31, q32, q33, q34, q35⟩ := (blk_j (a := X) (hW2.at (b := bX) (cs := jc X) (t := 26) (by simp))).1
  have q3l := blk_lt (hW2.at (b := bX) (cs := jc X) (t := 26) (by simp))
  go_upto_region 6 with (first | (go_at_call 79; (with_reducible refine (sjpower_m X M r _ HM).mono ?_); rintro e v3 ⟨rfl, hb⟩))
  have hP := hW2.push hb (frc M) 24
  obtain ⟨bM, hbb⟩ : ∃ b, b = v3.heap.size := ⟨_, rfl⟩
  have hbu := hb.size
  obtain ⟨W3, hW, hWr⟩ : ∃ W, W = v3.alloc (.cells #[.int .i64 M.re, .int .i64 M.im, .int .i64 M.den] 24) ∧ W = v3.alloc (.cells (frc M) 24) := ⟨_, rfl, rfl⟩
  rw [← hbb, ← hWr] at hP
  rw [← hbb] at hbu
  rw [← hW, ← hbb]
  have hW3 := hP
  clear hP hb hW hWr hW2
  clear hbb hbu
  clear q30 q31 q32 q33 q34 q35 q3l
  obtain ⟨q40, q41, q42, q43, q44, q45⟩ := (blk_j (a := Y) (hW3.at (b := bY) (cs := jc Y) (t := 26) (by simp))).1
  have q4l := blk_lt (hW3.at (b := bY) (cs := jc Y) (t := 26) (by simp))
  go_upto_region 7 with (first | (go_at_call 79; (with_reducible refine (sjpower_m Y N t _ HN).mono ?_); rintro e v4 ⟨rfl, hb⟩))
  have hP := hW3.push hb (frc N) 24
  obtain ⟨bN, hbb⟩ : ∃ b, b = v4.heap.size := ⟨_, rfl⟩
  have hbu := hb.size
  obtain ⟨W4, hW, hWr⟩ : ∃ W, W = v4.alloc (.cells #[.int .i64 N.re, .int .i64 N.im, .int .i64 N.den] 24) ∧ W = v4.alloc (.cells (frc N) 24) := ⟨_, rfl, rfl⟩
  rw [← hbb, ← hWr] at hP
  rw [← hbb] at hbu
  rw [← hW, ← hbb]
  have hW4 := hP
  clear hP hb hW hWr hW3
  clear hbb hbu
  clear q40 q41 q42 q43 q44 q45 q4l
  cases r
  · skip
    obtain ⟨q10, q11, q12⟩ := blk_fr0 (f := Z3) (hW4.at (b := w.heap.size + 1) (cs := frc Z3) (t := 24) (by simp))
    have q1l := blk_lt (hW4.at (b := w.heap.size + 1) (cs := frc Z3) (t := 24) (by simp))
    have q1f := blk_free0 (hW4.at (b := w.heap.size + 1) (cs := frc Z3) (t := 24) (by simp))
    obtain ⟨q20, q21, q22⟩ := blk_fr0 (f := Z3) (hW4.at (b := w.heap.size + 1 + 1) (cs := frc Z3) (t := 24) (by simp))
    have q2l := blk_lt (hW4.at (b := w.heap.size + 1 + 1) (cs := frc Z3) (t := 24) (by simp))
    have q2f := blk_free0 (hW4.at (b := w.heap.size + 1 + 1) (cs := frc Z3) (t := 24) (by simp))
    have hBF := hW4.B
    have hr := HR.out
    have hA := e0.out
    rw [show powersI a.data.toList b.data.toList k v = none from hr] at hA
    obtain ⟨rfl, rfl, rfl⟩ := hA
    clear hr
    go_wp2
    exact bodyPost_ret (v := .tuple #[frv Z3, frv Z3, .bool false]) (by simp [results, Tryz.results34, pw1, pw2, go_sem, *]) rfl ⟨by simp [pw1, pw2], by exact below_⟩
  cases t
  · skip
    obtain ⟨q10, q11, q12⟩ := blk_fr0 (f := Z3) (hW4.at (b := w.heap.size + 1) (cs := frc Z3) (t := 24) (by simp))
    have q1l := blk_lt (hW4.at (b := w.heap.size + 1) (cs := frc Z3) (t := 24) (by simp))
    have q1f := blk_free0 (hW4.at (b := w.heap.size + 1) (cs := frc Z3) (t := 24) (by simp))
    obtain ⟨q20, q21, q22⟩ := blk_fr0 (f := Z3) (hW4.at (b := w.heap.size + 1 + 1) (cs := frc Z3) (t := 24) (by simp))
    have q2l := blk_lt (hW4.at (b := w.heap.size + 1 + 1) (cs := frc Z3) (t := 24) (by simp))
    have q2f := blk_free0 (hW4.at (b := w.heap.size + 1 + 1) (cs := frc Z3) (t := 24) (by simp))
    have hBF := hW4.B
    have hr := HR.out
    have hA := e0.out
    rw [show powersI a.data.toList b.data.toList k v = none from hr] at hA
    obtain ⟨rfl, rfl, rfl⟩ := hA
    clear hr
    go_wp2
    exact bodyPost_ret (v := .tuple #[frv Z3, frv Z3, .bool false]) (by simp [results, Tryz.results34, pw1, pw2, go_sem, *]) rfl ⟨by simp [pw1, pw2], by exact below_⟩
  obtain ⟨q10, q11, q12⟩ := blk_fr0 (f := Z3) (hW4.at (b := w.heap.size + 1) (cs := frc Z3) (t := 24) (by simp))
  have q1l := blk_lt (hW4.at (b := w.heap.size + 1) (cs := frc Z3) (t := 24) (by simp))
  have q1f := blk_free0 (hW4.at (b := w.heap.size + 1) (cs := frc Z3) (t := 24) (by simp))
  obtain ⟨q20, q21, q22⟩ := blk_fr0 (f := Z3) (hW4.at (b := w.heap.size + 1 + 1) (cs := frc Z3) (t := 24) (by simp))
  have q2l := blk_lt (hW4.at (b := w.heap.size + 1 + 1) (cs := frc Z3) (t := 24) (by simp))
  have q2f := blk_free0 (hW4.at (b := w.heap.size + 1 + 1) (cs := frc Z3) (t := 24) (by simp))
  obtain ⟨q50, q51, q52⟩ := blk_fr0 (f := M) (hW4.at (b := bM) (cs := frc M) (t := 24) (by simp))
  have q5l := blk_lt (hW4.at (b := bM) (cs := frc M) (t := 24) (by simp))
  obtain ⟨q60, q61, q62⟩ := blk_fr0 (f := N) (hW4.at (b := bN) (cs := frc N) (t := 24) (by simp))
  have q6l := blk_lt (hW4.at (b := bN) (cs := frc N) (t := 24) (by simp))
  have hBF := hW4.B
  have hod := hW4.od
  simp only [List.pairwise_cons, List.mem_cons, List.not_mem_nil, or_false, forall_eq_or_imp, forall_eq] at hod
  have n1 : bM ≠ w.heap.size + 1 := by omega
  have n2 : bM ≠ w.heap.size + 1 + 1 := by omega
  have n3 : bN ≠ w.heap.size + 1 := by omega
  have n4 : bN ≠ w.heap.size + 1 + 1 := by omega
  have n5 : w.heap.size + 1 ≠ w.heap.size + 1 + 1 := by omega
  clear hod
  have hr := HR.out
  have hA := e0.out
  rw [show powersI a.data.toList b.data.toList k v = some (M, N) from hr] at hA
  obtain ⟨rfl, rfl, rfl⟩ := hA
  clear hr
  go_upto_region 9 with fail
  go_region
  all_goals (go_wp2; exact bodyPost_ret (v := .tuple #[frv M, frv N, .bool true]) (by simp [results, Tryz.results34, go_sem, *]) rfl ⟨by simp [pw1, pw2], by exact below_⟩)
set_option maxRecDepth 100000 in
set_option maxHeartbeats 8000000 in
theorem powers_any (a b : ByteArray) (k : Int) (v : Jn) (w : World) (ha : a.size ≤ 1048576) (hb2 : b.size ≤ 1048576) (hGP : GP w) (A B : Fr) (ok : Bool) (e0 : Hid (pw1 (powersI a.data.toList b.data.toList k v) = A ∧ pw2 (powersI a.data.toList b.data.toList k v) = B ∧ (powersI a.data.toList b.data.toList k v).isSome = ok)) :
    Calls Tryz.prog 20 #[.string a, .string b, .int .i64 k, jnv v] w fun e w' => e = .returned (.tuple #[frv A, frv B, .bool ok]) ∧ Below w.heap.size w w' := by
  obtain ⟨X, p, hX⟩ : ∃ X p, (portI a.data.toList b.data.toList k v false).getD Z6 = X ∧ (portI a.data.toList b.data.toList k v false).isSome = p := ⟨_, _, rfl, rfl⟩
  obtain ⟨Y, q, hY⟩ : ∃ X p, (portI a.data.toList b.data.toList k v true).getD Z6 = X ∧ (portI a.data.toList b.data.toList k v true).isSome = p := ⟨_, _, rfl, rfl⟩
  obtain ⟨M, r, hM⟩ : ∃ F q, (jpowerI X).getD Z3 = F ∧ (jpowerI X).isSome = q := ⟨_, _, rfl, rfl⟩
  obtain ⟨N, t, hN⟩ : ∃ F q, (jpowerI Y).getD Z3 = F ∧ (jpowerI Y).isSome = q := ⟨_, _, rfl, rfl⟩
  have HR := Lib.hid (powers_go hX hY hM hN)
  have HX := Lib.hid hX
  have HY := Lib.hid hY
  have HM := Lib.hid hM
  have HN := Lib.hid hN
  clear hX hY hM hN
  go_enter Tryz.func20, Tryz.ntmps20
  obtain ⟨W0, hW, hW0⟩ : ∃ W, W = ((w.alloc (.cells #[.int .i64 v.x.re, .int .i64 v.x.im, .int .i64 v.x.den, .int .i64 v.y.re, .int .i64 v.y.im, .int .i64 v.y.den] 26)).alloc (.cells #[.int .i64 0, .int .i64 0, .int .i64 0] 24)).alloc (.cells #[.int .i64 0, .int .i64 0, .int .i64 0] 24) ∧ BW w [(w.heap.size + 1 + 1, frc Z3, 24), (w.heap.size + 1, frc Z3, 24), (w.heap.size, jc v, 26)] W := by
    refine ⟨_, rfl, ?_⟩
    have h1 := BW.one w (jc v) 26
    have h2 := h1.push (Below.refl _ _) (frc Z3) 24
    simp only [World.size_alloc] at h2
    have h3 := h2.push (Below.refl _ _) (frc Z3) 24
    simp only [World.size_alloc] at h3
    exact h3
  go_upto_region 1 with fail
  rw [← hW]
  clear hW
  obtain ⟨q00, q01, q02, q03, q04, q05⟩ := (blk_j (a := v) (hW0.at (b := w.heap.size) (cs := jc v) (t := 26) (by simp))).1
  have q0l := blk_lt (hW0.at (b := w.heap.size) (cs := jc v) (t := 26) (by simp))
  go_upto_region 2 with (first | (go_at_call 29; (with_reducible refine (port_m a b k v false X p _ ha hb2 (hGP.below hW0.B) HX).mono ?_); rintro e v1 ⟨rfl, hb⟩))
  have hP := hW0.push hb (jc X) 26
  obtain ⟨bX, hbb⟩ : ∃ b, b = v1.heap.size := ⟨_, rfl⟩
  have hbu := hb.size
  obtain ⟨W1, hW, hWr⟩ : ∃ W, W = v1.alloc (.cells #[.int .i64 X.x.re, .int .i64 X.x.im, .int .i64 X.x.den, .int .i64 X.y.re, .int .i64 X.y.im, .int .i64 X.y.den] 26) ∧ W = v1.alloc (.cells (jc X) 26) := ⟨_, rfl, rfl⟩
  rw [← hbb, ← hWr] at hP
  rw [← hbb] at hbu
  rw [← hW, ← hbb]
  have hW1 := hP
  clear hP hb hW hWr hW0
  clear hbb hbu
  clear q00 q01 q02 q03 q04 q05 q0l
  obtain ⟨q00, q01, q02, q03, q04, q05⟩ := (blk_j (a := v) (hW1.at (b := w.heap.size) (cs := jc v) (t := 26) (by simp))).1
  have q0l := blk_lt (hW1.at (b := w.heap.size) (cs := jc v) (t := 26) (by simp))
  go_upto_region 3 with (first | (go_at_call 29; (with_reducible refine (port_m a b k v true Y q _ ha hb2 (hGP.below hW1.B) HY).mono ?_); rintro e v2 ⟨rfl, hb⟩))
  have hP := hW1.push hb (jc Y) 26
  obtain ⟨bY, hbb⟩ : ∃ b, b = v2.heap.size := ⟨_, rfl⟩
  have hbu := hb.size
  obtain ⟨W2, hW, hWr⟩ : ∃ W, W = v2.alloc (.cells #[.int .i64 Y.x.re, .int .i64 Y.x.im, .int .i64 Y.x.den, .int .i64 Y.y.re, .int .i64 Y.y.im, .int .i64 Y.y.den] 26) ∧ W = v2.alloc (.cells (jc Y) 26) := ⟨_, rfl, rfl⟩
  rw [← hbb, ← hWr] at hP
  rw [← hbb] at hbu
  rw [← hW, ← hbb]
  have hW2 := hP
  clear hP hb hW hWr hW1
  clear hbb hbu
  clear q00 q01 q02 q03 q04 q05 q0l
  obtain ⟨q30, q31, q32, q33, q34, q35⟩ := (blk_j (a := X) (hW2.at (b := bX) (cs := jc X) (t := 26) (by simp))).1
  have q3l := blk_lt (hW2.at (b := bX) (cs := jc X) (t := 26) (by simp))
  go_upto_region 4 with (first | (go_at_call 35; (with_reducible refine (jpowerX_m X M r _ HM).mono ?_); rintro e v3 ⟨rfl, hb⟩))
  have hP := hW2.push hb (frc M) 24
  obtain ⟨bM, hbb⟩ : ∃ b, b = v3.heap.size := ⟨_, rfl⟩
  have hbu := hb.size
  obtain ⟨W3, hW, hWr⟩ : ∃ W, W = v3.alloc (.cells #[.int .i64 M.re, .int .i64 M.im, .int .i64 M.den] 24) ∧ W = v3.alloc (.cells (frc M) 24) := ⟨_, rfl, rfl⟩
  rw [← hbb, ← hWr] at hP
  rw [← hbb] at hbu
  rw [← hW, ← hbb]
  have hW3 := hP
  clear hP hb hW hWr hW2
  clear hbb hbu
  clear q30 q31 q32 q33 q34 q35 q3l
  obtain ⟨q40, q41, q42, q43, q44, q45⟩ := (blk_j (a := Y) (hW3.at (b := bY) (cs := jc Y) (t := 26) (by simp))).1
  have q4l := blk_lt (hW3.at (b := bY) (cs := jc Y) (t := 26) (by simp))
  go_upto_region 5 with (first | (go_at_call 35; (with_reducible refine (jpowerX_m Y N t _ HN).mono ?_); rintro e v4 ⟨rfl, hb⟩))
  have hP := hW3.push hb (frc N) 24
  obtain ⟨bN, hbb⟩ : ∃ b, b = v4.heap.size := ⟨_, rfl⟩
  have hbu := hb.size
  obtain ⟨W4, hW, hWr⟩ : ∃ W, W = v4.alloc (.cells #[.int .i64 N.re, .int .i64 N.im, .int .i64 N.den] 24) ∧ W = v4.alloc (.cells (frc N) 24) := ⟨_, rfl, rfl⟩
  rw [← hbb, ← hWr] at hP
  rw [← hbb] at hbu
  rw [← hW, ← hbb]
  have hW4 := hP
  clear hP hb hW hWr hW3
  clear hbb hbu
  clear q40 q41 q42 q43 q44 q45 q4l
  cases p
  · skip
    obtain ⟨q10, q11, q12⟩ := blk_fr0 (f := Z3) (hW4.at (b := w.heap.size + 1) (cs := frc Z3) (t := 24) (by simp))
    have q1l := blk_lt (hW4.at (b := w.heap.size + 1) (cs := frc Z3) (t := 24) (by simp))
    have q1f := blk_free0 (hW4.at (b := w.heap.size + 1) (cs := frc Z3) (t := 24) (by simp))
    obtain ⟨q20, q21, q22⟩ := blk_fr0 (f := Z3) (hW4.at (b := w.heap.size + 1 + 1) (cs := frc Z3) (t := 24) (by simp))
    have q2l := blk_lt (hW4.at (b := w.heap.size + 1 + 1) (cs := frc Z3) (t := 24) (by simp))
    have q2f := blk_free0 (hW4.at (b := w.heap.size + 1 + 1) (cs := frc Z3) (t := 24) (by simp))
    have hBF := hW4.B
    have hr := HR.out
    have hA := e0.out
    rw [show powersI a.data.toList b.data.toList k v = none from hr] at hA
    obtain ⟨rfl, rfl, rfl⟩ := hA
    clear hr
    go_wp2
    exact bodyPost_ret (v := .tuple #[frv Z3, frv Z3, .bool false]) (by simp [results, Tryz.results20, pw1, pw2, go_sem, *]) rfl ⟨by simp [pw1, pw2], by exact below_⟩
  cases q
  · skip
    obtain ⟨q10, q11, q12⟩ := blk_fr0 (f := Z3) (hW4.at (b := w.heap.size + 1) (cs := frc Z3) (t := 24) (by simp))
    have q1l := blk_lt (hW4.at (b := w.heap.size + 1) (cs := frc Z3) (t := 24) (by simp))
    have q1f := blk_free0 (hW4.at (b := w.heap.size + 1) (cs := frc Z3) (t := 24) (by simp))
    obtain ⟨q20, q21, q22⟩ := blk_fr0 (f := Z3) (hW4.at (b := w.heap.size + 1 + 1) (cs := frc Z3) (t := 24) (by simp))
    have q2l := blk_lt (hW4.at (b := w.heap.size + 1 + 1) (cs := frc Z3) (t := 24) (by simp))
    have q2f := blk_free0 (hW4.at (b := w.heap.size + 1 + 1) (cs := frc Z3) (t := 24) (by simp))
    have hBF := hW4.B
    have hr := HR.out
    have hA := e0.out
    rw [show powersI a.data.toList b.data.toList k v = none from hr] at hA
    obtain ⟨rfl, rfl, rfl⟩ := hA
    clear hr
    go_wp2
    exact bodyPost_ret (v := .tuple #[frv Z3, frv Z3, .bool false]) (by simp [results, Tryz.results20, pw1, pw2, go_sem, *]) rfl ⟨by simp [pw1, pw2], by exact below_⟩
  cases r
  · skip
    obtain ⟨q10, q11, q12⟩ := blk_fr0 (f := Z3) (hW4.at (b := w.heap.size + 1) (cs := frc Z3) (t := 24) (by simp))
    have q1l := blk_lt (hW4.at (b := w.heap.size + 1) (cs := frc Z3) (t := 24) (by simp))
    have q1f := blk_free0 (hW4.at (b := w.heap.size + 1) (cs := frc Z3) (t := 24) (by simp))
    obtain ⟨q20, q21, q22⟩ := blk_fr0 (f := Z3) (hW4.at (b := w.heap.size + 1 + 1) (cs := frc Z3) (t := 24) (by simp))
    have q2l := blk_lt (hW4.at (b := w.heap.size + 1 + 1) (cs := frc Z3) (t := 24) (by simp))
    have q2f := blk_free0 (hW4.at (b := w.heap.size + 1 + 1) (cs := frc Z3) (t := 24) (by simp))
    have hBF := hW4.B
    have hr := HR.out
    have hA := e0.out
    rw [show powersI a.data.toList b.data.toList k v = none from hr] at hA
    obtain ⟨rfl, rfl, rfl⟩ := hA
    clear hr
    go_wp2
    exact bodyPost_ret (v := .tuple #[frv Z3, frv Z3, .bool false]) (by simp [results, Tryz.results20, pw1, pw2, go_sem, *]) rfl ⟨by simp [pw1, pw2], by exact below_⟩
  cases t
  · skip
    obtain ⟨q10, q11, q12⟩ := blk_fr0 (f := Z3) (hW4.at (b := w.heap.size + 1) (cs := frc Z3) (t := 24) (by simp))
    have q1l := blk_lt (hW4.at (b := w.heap.size + 1) (cs := frc Z3) (t := 24) (by simp))
    have q1f := blk_free0 (hW4.at (b := w.heap.size + 1) (cs := frc Z3) (t := 24) (by simp))
    obtain ⟨q20, q21, q22⟩ := blk_fr0 (f := Z3) (hW4.at (b := w.heap.size + 1 + 1) (cs := frc Z3) (t := 24) (by simp))
    have q2l := blk_lt (hW4.at (b := w.heap.size + 1 + 1) (cs := frc Z3) (t := 24) (by simp))
    have q2f := blk_free0 (hW4.at (b := w.heap.size + 1 + 1) (cs := frc Z3) (t := 24) (by simp))
    have hBF := hW4.B
    have hr := HR.out
    have hA := e0.out
    rw [show powersI a.data.toList b.data.toList k v = none from hr] at hA
    obtain ⟨rfl, rfl, rfl⟩ := hA
    clear hr
    go_wp2
    exact bodyPost_ret (v := .tuple #[frv Z3, frv Z3, .bool false]) (by simp [results, Tryz.results20, pw1, pw2, go_sem, *]) rfl ⟨by simp [pw1, pw2], by exact below_⟩
  obtain ⟨q10, q11, q12⟩ := blk_fr0 (f := Z3) (hW4.at (b := w.heap.size + 1) (cs := frc Z3) (t := 24) (by simp))
  have q1l := blk_lt (hW4.at (b := w.heap.size + 1) (cs := frc Z3) (t := 24) (by simp))
  have q1f := blk_free0 (hW4.at (b := w.heap.size + 1) (cs := frc Z3) (t := 24) (by simp))
  obtain ⟨q20, q21, q22⟩ := blk_fr0 (f := Z3) (hW4.at (b := w.heap.size + 1 + 1) (cs := frc Z3) (t := 24) (by simp))
  have q2l := blk_lt (hW4.at (b := w.heap.size + 1 + 1) (cs := frc Z3) (t := 24) (by simp))
  have q2f := blk_free0 (hW4.at (b := w.heap.size + 1 + 1) (cs := frc Z3) (t := 24) (by simp))
  obtain ⟨q50, q51, q52⟩ := blk_fr0 (f := M) (hW4.at (b := bM) (cs := frc M) (t := 24) (by simp))
  have q5l := blk_lt (hW4.at (b := bM) (cs := frc M) (t := 24) (by simp))
  obtain ⟨q60, q61, q62⟩ := blk_fr0 (f := N) (hW4.at (b := bN) (cs := frc N) (t := 24) (by simp))
  have q6l := blk_lt (hW4.at (b := bN) (cs := frc N) (t := 24) (by simp))
  have hBF := hW4.B
  have hod := hW4.od
  simp only [List.pairwise_cons, List.mem_cons, List.not_mem_nil, or_false, forall_eq_or_imp, forall_eq] at hod
  have n1 : bM ≠ w.heap.size + 1 := by omega
  have n2 : bM ≠ w.heap.size + 1 + 1 := by omega
  have n3 : bN ≠ w.heap.size + 1 := by omega
  have n4 : bN ≠ w.heap.size + 1 + 1 := by omega
  have n5 : w.heap.size + 1 ≠ w.heap.size + 1 + 1 := by omega
  clear hod
  have hr := HR.out
  have hA := e0.out
  rw [show powersI a.data.toList b.data.toList k v = some (M, N) from hr] at hA
  obtain ⟨rfl, rfl, rfl⟩ := hA
  clear hr
  go_upto_region 7 with fail
  go_region
  all_goals (go_wp2; exact bodyPost_ret (v := .tuple #[frv M, frv N, .bool true]) (by simp [results, Tryz.results20, go_sem, *]) rfl ⟨by simp [pw1, pw2], by exact below_⟩)
end Go.Proofs.YtjbnkefeacineaaGreatDoor
