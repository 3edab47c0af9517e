/-
  The walks of PortKeeps, program and reference.
-/
import Derived.Test.YtjbnkefeacineaaGreatDoorIk
namespace Go.Proofs.YtjbnkefeacineaaGreatDoor
set_option linter.unusedSimpArgs false
set_option linter.unusedVariables false
open Go.RowKit
attribute [local go_sem ↓] Go.wp_at_zero Go.wp_at_succ
/-- Whether the ports keep within what came in. -/
def keepsI (a b : List UInt8) (k : Int) (v : Jn) : Bool := match powersI a b k v, jpowerI v with
  | some (p, q), some n => match addI p q with
    | some s => (cmpI s n).isSome && decide ((cmpI s n).getD 0 ≤ 0)
    | none => false
  | _, _ => false
theorem keeps_go {a b : List UInt8} {k : Int} {v : Jn} {A B S N : Fr} {c : Int} {ok n1 s1 t : Bool} (hP : pw1 (powersI a b k v) = A ∧ pw2 (powersI a b k v) = B ∧ (powersI a b k v).isSome = ok)
    (hN : (jpowerI v).getD Z3 = N ∧ (jpowerI v).isSome = n1) (hS : (addI A B).getD Z3 = S ∧ (addI A B).isSome = s1) (hC : (cmpI S N).getD 0 = c ∧ (cmpI S N).isSome = t) : keepsI a b k v = (ok && (n1 && (s1 && (t && decide (c ≤ 0))))) := by
  unfold keepsI
  cases h1 : powersI a b k v with
  | none => rw [h1] at hP; obtain ⟨-, -, rfl⟩ := hP; rfl
  | some pq =>
    obtain ⟨p, q⟩ := pq
    rw [h1] at hP
    obtain ⟨e1, e2, rfl⟩ := hP
    obtain rfl : p = A := e1
    obtain rfl : q = B := e2
    cases h2 : jpowerI v with
    | none => rw [h2] at hN; obtain ⟨-, rfl⟩ := hN; rfl
    | some n =>
      rw [h2] at hN
      obtain ⟨e3, rfl⟩ := hN
      obtain rfl : n = N := e3
      simp only
      cases h3 : addI p q with
      | none => rw [h3] at hS; obtain ⟨-, rfl⟩ := hS; rfl
      | some s =>
        rw [h3] at hS
        obtain ⟨e4, rfl⟩ := hS
        obtain rfl : s = S := e4
        show ((cmpI s n).isSome && decide ((cmpI s n).getD 0 ≤ 0)) = _
        rw [hC.1, hC.2]
        rfl
theorem sadd_m (a b S : Fr) (s1 : Bool) (w : World) (e : Hid ((addI a b).getD Z3 = S ∧ (addI a b).isSome = s1)) : Calls Tryz.prog 64 #[frv a, frv b] w fun e w' => e = .returned (.tuple #[frv S, .bool s1]) ∧ Below w.heap.size w w' := by
  rw [← e.out.1, ← e.out.2]; exact sadd_any a b w
theorem add_m (a b S : Fr) (s1 : Bool) (w : World) (e : Hid ((addI a b).getD Z3 = S ∧ (addI a b).isSome = s1)) : Calls Tryz.prog 36 #[frv a, frv b] w fun e w' => e = .returned (.tuple #[frv S, .bool s1]) ∧ Below w.heap.size w w' := by
  rw [← e.out.1, ← e.out.2]; exact add_any a b w
theorem pcompare_m (a b : Fr) (n : Int) (ok : Bool) (w : World) (e : Hid ((cmpI a b).getD 0 = n ∧ (cmpI a b).isSome = ok)) :
    Calls Tryz.prog 16 #[frv a, frv b] w fun e w' => e = .returned (.tuple #[.int .i64 n, .bool ok]) ∧ Below w.heap.size w w' := by
  rw [← e.out.1, ← e.out.2]; exact compare_any a b w
set_option maxRecDepth 100000 in
set_option maxHeartbeats 8000000 in
theorem skeeps_any (a b : ByteArray) (k : Int) (v : Jn) (w : World) :
    Calls Tryz.prog 44 #[.string a, .string b, .int .i64 k, jnv v] w fun e w' => e = .returned (.bool (keepsI a.data.toList b.data.toList k v)) ∧ Below w.heap.size w w' := by
  obtain ⟨A, B, ok, hP⟩ : ∃ A B ok, pw1 (powersI a.data.toList b.data.toList k v) = A ∧ pw2 (powersI a.data.toList b.data.toList k v) = B ∧ (powersI a.data.toList b.data.toList k v).isSome = ok := ⟨_, _, _, rfl, rfl, rfl⟩
  obtain ⟨N, n1, hN⟩ : ∃ F q, (jpowerI v).getD Z3 = F ∧ (jpowerI v).isSome = q := ⟨_, _, rfl, rfl⟩
  obtain ⟨S, s1, hS⟩ : ∃ F q, (addI A B).getD Z3 = F ∧ (addI A B).isSome = q := ⟨_, _, rfl, rfl⟩
  obtain ⟨c, t, hC⟩ : ∃ F q, (cmpI S N).getD 0 = F ∧ (cmpI S N).isSome = q := ⟨_, _, rfl, rfl⟩
  obtain ⟨R, hR⟩ : ∃ R, keepsI a.data.toList b.data.toList k v = R := ⟨_, rfl⟩
  have hgo := keeps_go hP hN hS hC
  rw [hR] at hgo ⊢
  have HR := Lib.hid hgo
  have HP := Lib.hid hP
  have HN := Lib.hid hN
  have HS := Lib.hid hS
  have HC := Lib.hid hC
  clear hP hN hS hC hR hgo
  go_enter Tryz.func44, Tryz.ntmps44
  obtain ⟨W0, hW, hW0⟩ : ∃ W, W = w.alloc (.cells #[.int .i64 v.x.re, .int .i64 v.x.im, .int .i64 v.x.den, .int .i64 v.y.re, .int .i64 v.y.im, .int .i64 v.y.den] 26) ∧ BW w [(w.heap.size, jc v, 26)] W := by
    refine ⟨_, rfl, ?_⟩
    have h1 := BW.one w (jc v) 26
    exact h1
  go_upto_region 1 with fail
  rw [← hW]
  clear hW
  obtain ⟨q00, q01, q02, q03, q04, q05⟩ := (blk_j (a := v) (hW0.at (b := w.heap.size) (cs := jc v) (t := 26) (by simp))).1
  have q0l := blk_lt (hW0.at (b := w.heap.size) (cs := jc v) (t := 26) (by simp))
  go_upto_region 2 with (first | (go_at_call 34; (with_reducible refine (spowers_any a b k v _ A B ok HP).mono ?_); rintro e v1 ⟨rfl, hb⟩))
  obtain ⟨bA, hb1⟩ : ∃ b, b = v1.heap.size := ⟨_, rfl⟩
  obtain ⟨bB, hb2⟩ : ∃ b, b = bA + 1 := ⟨_, rfl⟩
  obtain ⟨W1, hW, hW1⟩ : ∃ W, W = (v1.alloc (.cells #[.int .i64 A.re, .int .i64 A.im, .int .i64 A.den] 24)).alloc (.cells #[.int .i64 B.re, .int .i64 B.im, .int .i64 B.den] 24) ∧ BW w [(bB, frc B, 24), (bA, frc A, 24), (w.heap.size, jc v, 26)] W := by
    refine ⟨_, rfl, ?_⟩
    have h1 := (hW0.push hb (frc A) 24).push (Below.refl _ _) (frc B) 24
    rw [World.size_alloc, ← hb1, ← hb2] at h1
    exact h1
  rw [← hW, ← hb1, ← hb2]
  clear hW hb1 hb2 hb hW0
  clear q00 q01 q02 q03 q04 q05 q0l
  obtain ⟨q00, q01, q02, q03, q04, q05⟩ := (blk_j (a := v) (hW1.at (b := w.heap.size) (cs := jc v) (t := 26) (by simp))).1
  have q0l := blk_lt (hW1.at (b := w.heap.size) (cs := jc v) (t := 26) (by simp))
  go_upto_region 3 with (first | (go_at_call 79; (with_reducible refine (sjpower_m v N n1 _ HN).mono ?_); rintro e v2 ⟨rfl, hb⟩))
  have hP := hW1.push hb (frc N) 24
  obtain ⟨bN, hbb⟩ : ∃ b, b = v2.heap.size := ⟨_, rfl⟩
  have hbu := hb.size
  obtain ⟨W2, hW, hWr⟩ : ∃ W, W = v2.alloc (.cells #[.int .i64 N.re, .int .i64 N.im, .int .i64 N.den] 24) ∧ W = v2.alloc (.cells (frc N) 24) := ⟨_, rfl, rfl⟩
  rw [← hbb, ← hWr] at hP
  rw [← hbb] at hbu
  rw [← hW, ← hbb]
  have hW2 := hP
  clear hP hb hW hWr hW1
  clear hbb hbu
  clear q00 q01 q02 q03 q04 q05 q0l
  cases ok
  · skip
    have hBF := hW2.B
    go_wp2
    go_ret
    exact ⟨by rw [HR.out]; first | rfl | (simp; done), by exact below_⟩
  cases n1
  · skip
    have hBF := hW2.B
    go_wp2
    go_ret
    exact ⟨by rw [HR.out]; first | rfl | (simp; done), by exact below_⟩
  obtain ⟨q10, q11, q12⟩ := blk_fr0 (f := A) (hW2.at (b := bA) (cs := frc A) (t := 24) (by simp))
  have q1l := blk_lt (hW2.at (b := bA) (cs := frc A) (t := 24) (by simp))
  obtain ⟨q20, q21, q22⟩ := blk_fr0 (f := B) (hW2.at (b := bB) (cs := frc B) (t := 24) (by simp))
  have q2l := blk_lt (hW2.at (b := bB) (cs := frc B) (t := 24) (by simp))
  go_upto_region 6 with (first | (go_at_call 64; (with_reducible refine (sadd_m A B S s1 _ HS).mono ?_); rintro e v3 ⟨rfl, hb⟩))
  have hP := hW2.push hb (frc S) 24
  obtain ⟨bS, hbb⟩ : ∃ b, b = v3.heap.size := ⟨_, rfl⟩
  have hbu := hb.size
  obtain ⟨W3, hW, hWr⟩ : ∃ W, W = v3.alloc (.cells #[.int .i64 S.re, .int .i64 S.im, .int .i64 S.den] 24) ∧ W = v3.alloc (.cells (frc S) 24) := ⟨_, rfl, rfl⟩
  rw [← hbb, ← hWr] at hP
  rw [← hbb] at hbu
  rw [← hW, ← hbb]
  have hW3 := hP
  clear hP hb hW hWr hW2
  clear hbb hbu
  clear q10 q11 q12 q1l q20 q21 q22 q2l
  obtain ⟨q30, q31, q32⟩ := blk_fr0 (f := N) (hW3.at (b := bN) (cs := frc N) (t := 24) (by simp))
  have q3l := blk_lt (hW3.at (b := bN) (cs := frc N) (t := 24) (by simp))
  obtain ⟨q40, q41, q42⟩ := blk_fr0 (f := S) (hW3.at (b := bS) (cs := frc S) (t := 24) (by simp))
  have q4l := blk_lt (hW3.at (b := bS) (cs := frc S) (t := 24) (by simp))
  go_upto_region 7 with (first | (go_at_call 81; (with_reducible refine (scompare_m S N c t _ HC).mono ?_); rintro e v9 ⟨rfl, hb⟩))
  have hW4 := hW3.step hb
  clear hb hW3 q30 q31 q32 q3l q40 q41 q42 q4l
  cases s1
  · skip
    have hBF := hW4.B
    go_wp2
    go_ret
    exact ⟨by rw [HR.out]; first | rfl | (simp; done), by exact below_⟩
  cases t
  · skip
    have hBF := hW4.B
    go_wp2
    go_ret
    exact ⟨by rw [HR.out]; first | rfl | (simp; done), by exact below_⟩
  have hBF := hW4.B
  go_wp2
  go_ret
  exact ⟨by rw [HR.out]; first | rfl | (simp; done), by exact below_⟩
set_option maxRecDepth 100000 in
set_option maxHeartbeats 8000000 in
theorem keeps_any (a b : ByteArray) (k : Int) (v : Jn) (w : World) (ha : a.size ≤ 1048576) (hb2 : b.size ≤ 1048576) (hGP : GP w) :
    Calls Tryz.prog 37 #[.string a, .string b, .int .i64 k, jnv v] w fun e w' => e = .returned (.bool (keepsI a.data.toList b.data.toList k v)) ∧ Below w.heap.size w w' := by
  obtain ⟨A, B, ok, hP⟩ : ∃ A B ok, pw1 (powersI a.data.toList b.data.toList k v) = A ∧ pw2 (powersI a.data.toList b.data.toList k v) = B ∧ (powersI a.data.toList b.data.toList k v).isSome = ok := ⟨_, _, _, rfl, rfl, rfl⟩
  obtain ⟨N, n1, hN⟩ : ∃ F q, (jpowerI v).getD Z3 = F ∧ (jpowerI v).isSome = q := ⟨_, _, rfl, rfl⟩
  obtain ⟨S, s1, hS⟩ : ∃ F q, (addI A B).getD Z3 = F ∧ (addI A B).isSome = q := ⟨_, _, rfl, rfl⟩
  obtain ⟨c, t, hC⟩ : ∃ F q, (cmpI S N).getD 0 = F ∧ (cmpI S N).isSome = q := ⟨_, _, rfl, rfl⟩
  obtain ⟨R, hR⟩ : ∃ R, keepsI a.data.toList b.data.toList k v = R := ⟨_, rfl⟩
  have hgo := keeps_go hP hN hS hC
  rw [hR] at hgo ⊢
  have HR := Lib.hid hgo
  have HP := Lib.hid hP
  have HN := Lib.hid hN
  have HS := Lib.hid hS
  have HC := Lib.hid hC
  clear hP hN hS hC hR hgo
  go_enter Tryz.func37, Tryz.ntmps37
  obtain ⟨W0, hW, hW0⟩ : ∃ W, W = w.alloc (.cells #[.int .i64 v.x.re, .int .i64 v.x.im, .int .i64 v.x.den, .int .i64 v.y.re, .int .i64 v.y.im, .int .i64 v.y.den] 26) ∧ BW w [(w.heap.size, jc v, 26)] W := by
    refine ⟨_, rfl, ?_⟩
    have h1 := BW.one w (jc v) 26
    exact h1
  go_upto_region 1 with fail
  rw [← hW]
  clear hW
  obtain ⟨q00, q01, q02, q03, q04, q05⟩ := (blk_j (a := v) (hW0.at (b := w.heap.size) (cs := jc v) (t := 26) (by simp))).1
  have q0l := blk_lt (hW0.at (b := w.heap.size) (cs := jc v) (t := 26) (by simp))
  go_upto_region 2 with (first | (go_at_call 20; (with_reducible refine (powers_any a b k v _ ha hb2 (hGP.below hW0.B) A B ok HP).mono ?_); rintro e v1 ⟨rfl, hb⟩))
  obtain ⟨bA, hb1⟩ : ∃ b, b = v1.heap.size := ⟨_, rfl⟩
  obtain ⟨bB, hb2⟩ : ∃ b, b = bA + 1 := ⟨_, rfl⟩
  obtain ⟨W1, hW, hW1⟩ : ∃ W, W = (v1.alloc (.cells #[.int .i64 A.re, .int .i64 A.im, .int .i64 A.den] 24)).alloc (.cells #[.int .i64 B.re, .int .i64 B.im, .int .i64 B.den] 24) ∧ BW w [(bB, frc B, 24), (bA, frc A, 24), (w.heap.size, jc v, 26)] W := by
    refine ⟨_, rfl, ?_⟩
    have h1 := (hW0.push hb (frc A) 24).push (Below.refl _ _) (frc B) 24
    rw [World.size_alloc, ← hb1, ← hb2] at h1
    exact h1
  rw [← hW, ← hb1, ← hb2]
  clear hW hb1 hb2 hb hW0
  clear q00 q01 q02 q03 q04 q05 q0l
  obtain ⟨q10, q11, q12⟩ := blk_fr0 (f := A) (hW1.at (b := bA) (cs := frc A) (t := 24) (by simp))
  have q1l := blk_lt (hW1.at (b := bA) (cs := frc A) (t := 24) (by simp))
  obtain ⟨q20, q21, q22⟩ := blk_fr0 (f := B) (hW1.at (b := bB) (cs := frc B) (t := 24) (by simp))
  have q2l := blk_lt (hW1.at (b := bB) (cs := frc B) (t := 24) (by simp))
  go_upto_region 3 with (first | (go_at_call 36; (with_reducible refine (add_m A B S s1 _ HS).mono ?_); rintro e v2 ⟨rfl, hb⟩))
  have hP := hW1.push hb (frc S) 24
  obtain ⟨bS, hbb⟩ : ∃ b, b = v2.heap.size := ⟨_, rfl⟩
  have hbu := hb.size
  obtain ⟨W2, hW, hWr⟩ : ∃ W, W = v2.alloc (.cells #[.int .i64 S.re, .int .i64 S.im, .int .i64 S.den] 24) ∧ W = v2.alloc (.cells (frc S) 24) := ⟨_, rfl, rfl⟩
  rw [← hbb, ← hWr] at hP
  rw [← hbb] at hbu
  rw [← hW, ← hbb]
  have hW2 := hP
  clear hP hb hW hWr hW1
  clear hbb hbu
  clear q10 q11 q12 q1l q20 q21 q22 q2l
  obtain ⟨q00, q01, q02, q03, q04, q05⟩ := (blk_j (a := v) (hW2.at (b := w.heap.size) (cs := jc v) (t := 26) (by simp))).1
  have q0l := blk_lt (hW2.at (b := w.heap.size) (cs := jc v) (t := 26) (by simp))
  go_upto_region 4 with (first | (go_at_call 35; (with_reducible refine (jpowerX_m v N n1 _ HN).mono ?_); rintro e v3 ⟨rfl, hb⟩))
  have hP := hW2.push hb (frc N) 24
  obtain ⟨bN, hbb⟩ : ∃ b, b = v3.heap.size := ⟨_, rfl⟩
  have hbu := hb.size
  obtain ⟨W3, hW, hWr⟩ : ∃ W, W = v3.alloc (.cells #[.int .i64 N.re, .int .i64 N.im, .int .i64 N.den] 24) ∧ W = v3.alloc (.cells (frc N) 24) := ⟨_, rfl, rfl⟩
  rw [← hbb, ← hWr] at hP
  rw [← hbb] at hbu
  rw [← hW, ← hbb]
  have hW3 := hP
  clear hP hb hW hWr hW2
  clear hbb hbu
  clear q00 q01 q02 q03 q04 q05 q0l
  obtain ⟨q30, q31, q32⟩ := blk_fr0 (f := S) (hW3.at (b := bS) (cs := frc S) (t := 24) (by simp))
  have q3l := blk_lt (hW3.at (b := bS) (cs := frc S) (t := 24) (by simp))
  obtain ⟨q40, q41, q42⟩ := blk_fr0 (f := N) (hW3.at (b := bN) (cs := frc N) (t := 24) (by simp))
  have q4l := blk_lt (hW3.at (b := bN) (cs := frc N) (t := 24) (by simp))
  go_upto_region 5 with (first | (go_at_call 16; (with_reducible refine (pcompare_m S N c t _ HC).mono ?_); rintro e v9 ⟨rfl, hb⟩))
  have hW4 := hW3.step hb
  clear hb hW3 q30 q31 q32 q3l q40 q41 q42 q4l
  cases ok
  · skip
    have hBF := hW4.B
    go_wp2
    go_ret
    exact ⟨by rw [HR.out]; first | rfl | (simp; done), by exact below_⟩
  cases s1
  · skip
    have hBF := hW4.B
    go_wp2
    go_ret
    exact ⟨by rw [HR.out]; first | rfl | (simp; done), by exact below_⟩
  cases n1
  · skip
    have hBF := hW4.B
    go_wp2
    go_ret
    exact ⟨by rw [HR.out]; first | rfl | (simp; done), by exact below_⟩
  cases t
  · skip
    have hBF := hW4.B
    go_wp2
    go_ret
    exact ⟨by rw [HR.out]; first | rfl | (simp; done), by exact below_⟩
  have hBF := hW4.B
  go_wp2
  go_ret
  exact ⟨by rw [HR.out]; first | rfl | (simp; done), by exact below_⟩
end Go.Proofs.YtjbnkefeacineaaGreatDoor
