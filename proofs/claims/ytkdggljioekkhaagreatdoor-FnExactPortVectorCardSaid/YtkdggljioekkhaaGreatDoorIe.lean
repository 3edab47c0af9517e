/-
  The walks of the reference's ports: the vector at one.
-/
import Derived.Test.YtkdggljioekkhaaGreatDoorId
import Derived.Test.YtkdggljioekkhaaGreatDoorIa
import Derived.Test.YtkdggljioekkhaaGreatDoorBd
namespace Go.Proofs.YtkdggljioekkhaaGreatDoor
set_option linter.unusedSimpArgs false
set_option linter.unusedVariables false
open Go.RowKit
attribute [local go_sem ↓] Go.wp_at_zero Go.wp_at_succ
theorem srun_m (s : ByteArray) (v X : Jn) (p : Bool) (w : World) (e : Hid ((runI s.data.toList v).getD Z6 = X ∧ (runI s.data.toList v).isSome = p)) :
    Calls Tryz.prog 35 #[.string s, jnv v] w fun e w' => e = .returned (.tuple #[jnv X, .bool p]) ∧ Below w.heap.size w w' := by
  rw [← e.out.1, ← e.out.2]; exact srun_any s v w
theorem sjtimes_m (a X : Jn) (c : Fr) (p : Bool) (w : World) (e : Hid ((jtimesI a c).getD Z6 = X ∧ (jtimesI a c).isSome = p)) :
    Calls Tryz.prog 37 #[jnv a, frv c] w fun e w' => e = .returned (.tuple #[jnv X, .bool p]) ∧ Below w.heap.size w w' := by
  rw [← e.out.1, ← e.out.2]; exact sjtimes_any a c w
theorem sjadd_m (a b X : Jn) (p : Bool) (w : World) (e : Hid ((jaddI a b).getD Z6 = X ∧ (jaddI a b).isSome = p)) :
    Calls Tryz.prog 38 #[jnv a, jnv b] w fun e w' => e = .returned (.tuple #[jnv X, .bool p]) ∧ Below w.heap.size w w' := by
  rw [← e.out.1, ← e.out.2]; exact sjadd_any a b w
theorem sphase_m (k : Int) (F : Fr) (w : World) (h0 : 0 ≤ k) (h1 : k ≤ 3) (e : Hid (phF k = F)) :
    Calls Tryz.prog 36 #[.int .i64 k] w fun e w' => e = .returned (frv F) ∧ Below w.heap.size w w' := by
  rw [← e.out]; exact sphase_any k w h0 h1
theorem l6in_o (n lo hi : Int) (b : Bool) (w : World) (h : inB n lo hi = b) : Calls Tryz.prog 34 #[.int .i64 n, .int .i64 lo, .int .i64 hi] w fun e w' => e = .returned (.bool b) ∧ w' = w := by
  cases b
  · exact l6in_f n lo hi w h
  · exact l6in_t n lo hi w h
/-- What the reference's calls make, put together. -/
theorem portI_go {a b : List UInt8} {k : Int} {v X Y Z S O : Jn} {s p q r t u : Bool} {F : Fr} (hk : inB k 0 3 = true) (hX : (runI a v).getD Z6 = X ∧ (runI a v).isSome = p) (hY : (runI b v).getD Z6 = Y ∧ (runI b v).isSome = q)
    (hF : phF (if s then (k + 2) % 4 else k) = F) (hZ : (jtimesI Y F).getD Z6 = Z ∧ (jtimesI Y F).isSome = r) (hS : (jaddI X Z).getD Z6 = S ∧ (jaddI X Z).isSome = t) (hO : (jtimesI S ⟨1, 0, 2⟩).getD Z6 = O ∧ (jtimesI S ⟨1, 0, 2⟩).isSome = u) :
    portI a b k v s = if p && (q && (r && (t && u))) then some O else none := by
  unfold portI
  rw [if_pos hk]
  cases h1 : runI a v with
  | none => rw [h1] at hX; obtain ⟨-, rfl⟩ := hX; rfl
  | some x =>
    rw [h1] at hX
    obtain ⟨e1, rfl⟩ := hX
    obtain rfl : x = X := e1
    cases h2 : runI b v with
    | none => rw [h2] at hY; obtain ⟨-, rfl⟩ := hY; rfl
    | some y =>
      rw [h2] at hY
      obtain ⟨e2, rfl⟩ := hY
      obtain rfl : y = Y := e2
      rw [Option.bind_some, Option.bind_some, hF]
      cases h3 : jtimesI y F with
      | none => rw [h3] at hZ; obtain ⟨-, rfl⟩ := hZ; rfl
      | some z =>
        rw [h3] at hZ
        obtain ⟨e3, rfl⟩ := hZ
        obtain rfl : z = Z := e3
        rw [Option.bind_some]
        cases h4 : jaddI x z with
        | none => rw [h4] at hS; obtain ⟨-, rfl⟩ := hS; rfl
        | some c =>
          rw [h4] at hS
          obtain ⟨e4, rfl⟩ := hS
          obtain rfl : c = S := e4
          rw [Option.bind_some]
          cases h5 : jtimesI c ⟨1, 0, 2⟩ with
          | none => rw [h5] at hO; obtain ⟨-, rfl⟩ := hO; rfl
          | some d =>
            rw [h5] at hO
            obtain ⟨e5, rfl⟩ := hO
            obtain rfl : d = O := e5
            rfl
set_option maxRecDepth 100000 in
set_option maxHeartbeats 4000000 in
theorem sport_no (a b : ByteArray) (k : Int) (v : Jn) (s : Bool) (w : World) (hk : inB k 0 3 = false) :
    Calls Tryz.prog 11 #[.string a, .string b, .int .i64 k, jnv v, .bool s] w fun e w' => e = .returned (jnb none) ∧ Below w.heap.size w w' := by
  go_enter Tryz.func11, Tryz.ntmps11
  go_wp2_with (first | (go_at_call 34; refine (l6in_o _ _ _ _ _ hk).mono ?_; rintro e w1 ⟨rfl, hw⟩; obtain rfl := hw.symm))
  exact bodyPost_ret (v := jnb none) (by simp [results, Tryz.results11, go_sem, *]) rfl ⟨rfl, by exact below_⟩
set_option maxRecDepth 100000 in
set_option maxHeartbeats 8000000 in
theorem sport_f (a b : ByteArray) (k : Int) (v : Jn) (w : World) (hk : inB k 0 3 = true) :
    Calls Tryz.prog 11 #[.string a, .string b, .int .i64 k, jnv v, .bool false] w fun e w' => e = .returned (jnb (portI a.data.toList b.data.toList k v false)) ∧ Below w.heap.size w w' := by
  obtain ⟨X, p, hX⟩ : ∃ X p, (runI a.data.toList v).getD Z6 = X ∧ (runI a.data.toList v).isSome = p := ⟨_, _, rfl, rfl⟩
  obtain ⟨Y, q, hY⟩ : ∃ X p, (runI b.data.toList v).getD Z6 = X ∧ (runI b.data.toList v).isSome = p := ⟨_, _, rfl, rfl⟩
  obtain ⟨F0, hF0⟩ : ∃ F, phF k = F := ⟨_, rfl⟩
  obtain ⟨F, hF⟩ : ∃ F, phF (if false then (k + 2) % 4 else k) = F := ⟨_, rfl⟩
  obtain ⟨Z, r, hZ⟩ : ∃ X p, (jtimesI Y F).getD Z6 = X ∧ (jtimesI Y F).isSome = p := ⟨_, _, rfl, rfl⟩
  obtain ⟨S, t, hS⟩ : ∃ X1 p, (jaddI X Z).getD Z6 = X1 ∧ (jaddI X Z).isSome = p := ⟨_, _, rfl, rfl⟩
  obtain ⟨O, u, hO⟩ : ∃ X p, (jtimesI S ⟨1, 0, 2⟩).getD Z6 = X ∧ (jtimesI S ⟨1, 0, 2⟩).isSome = p := ⟨_, _, rfl, rfl⟩
  have hgo := portI_go (s := false) hk hX hY hF hZ hS hO
  obtain ⟨R, hR⟩ : ∃ R, portI a.data.toList b.data.toList k v false = R := ⟨_, rfl⟩
  rw [hR] at hgo ⊢
  have HR := Lib.hid hgo
  have hkb := inB_iff.1 hk
  have hk0 := hkb.1
  have hk3 := hkb.2
  have HX := Lib.hid hX
  have HY := Lib.hid hY
  have HF0 := Lib.hid hF0
  have HF := Lib.hid hF
  have HZ := Lib.hid hZ
  have HS := Lib.hid hS
  have HO := Lib.hid hO
  clear hX hY hF hF0 hZ hS hO hgo hkb hR
  go_enter Tryz.func11, Tryz.ntmps11
  obtain ⟨W0, hW, hW0⟩ : ∃ W, W = (w.alloc (.cells #[.int .i64 v.x.re, .int .i64 v.x.im, .int .i64 v.x.den, .int .i64 v.y.re, .int .i64 v.y.im, .int .i64 v.y.den] 28)).alloc (.cells #[.int .i64 0, .int .i64 0, .int .i64 0, .int .i64 0, .int .i64 0, .int .i64 0] 28) ∧ BW w [(w.heap.size + 1, jc Z6, 28), (w.heap.size, jc v, 28)] W := by
    refine ⟨_, rfl, ?_⟩
    have h1 := BW.one w (jc v) 28
    have h2 := h1.push (Below.refl _ _) (jc Z6) 28
    simp only [World.size_alloc] at h2
    exact h2
  go_upto_region 1 with fail
  rw [← hW]
  clear hW
  go_upto_region 3 with (first | (go_at_call 34; refine (l6in_o _ _ _ _ _ hk).mono ?_; rintro e w1 ⟨rfl, hw⟩; obtain rfl := hw.symm))
  clear hk
  obtain ⟨q00, q01, q02, q03, q04, q05⟩ := (blk_j (a := v) (hW0.at (b := w.heap.size) (cs := jc v) (t := 28) (by simp))).1
  have q0l := blk_lt (hW0.at (b := w.heap.size) (cs := jc v) (t := 28) (by simp))
  go_upto_region 4 with (first | (go_at_call 35; (with_reducible refine (srun_m a v X p _ HX).mono ?_); rintro e v1 ⟨rfl, hb⟩))
  have hP := hW0.push hb (jc X) 28
  obtain ⟨bX, hbb⟩ : ∃ b, b = v1.heap.size := ⟨_, rfl⟩
  have hbu := hb.size
  obtain ⟨W1, hW, hWr⟩ : ∃ W, W = v1.alloc (.cells #[.int .i64 X.x.re, .int .i64 X.x.im, .int .i64 X.x.den, .int .i64 X.y.re, .int .i64 X.y.im, .int .i64 X.y.den] 28) ∧ W = v1.alloc (.cells (jc X) 28) := ⟨_, rfl, rfl⟩
  rw [← hbb, ← hWr] at hP
  rw [← hbb] at hbu
  rw [← hW, ← hbb]
  have hW1 := hP
  clear hP hb hW hWr hW0
  clear hbb hbu
  clear q00 q01 q02 q03 q04 q05 q0l
  obtain ⟨q00, q01, q02, q03, q04, q05⟩ := (blk_j (a := v) (hW1.at (b := w.heap.size) (cs := jc v) (t := 28) (by simp))).1
  have q0l := blk_lt (hW1.at (b := w.heap.size) (cs := jc v) (t := 28) (by simp))
  go_upto_region 5 with (first | (go_at_call 35; (with_reducible refine (srun_m b v Y q _ HY).mono ?_); rintro e v2 ⟨rfl, hb⟩))
  have hP := hW1.push hb (jc Y) 28
  obtain ⟨bY, hbb⟩ : ∃ b, b = v2.heap.size := ⟨_, rfl⟩
  have hbu := hb.size
  obtain ⟨W2, hW, hWr⟩ : ∃ W, W = v2.alloc (.cells #[.int .i64 Y.x.re, .int .i64 Y.x.im, .int .i64 Y.x.den, .int .i64 Y.y.re, .int .i64 Y.y.im, .int .i64 Y.y.den] 28) ∧ W = v2.alloc (.cells (jc Y) 28) := ⟨_, rfl, rfl⟩
  rw [← hbb, ← hWr] at hP
  rw [← hbb] at hbu
  rw [← hW, ← hbb]
  have hW2 := hP
  clear hP hb hW hWr hW1
  clear hbb hbu
  clear q00 q01 q02 q03 q04 q05 q0l
  cases p
  · skip
    obtain ⟨q10, q11, q12, q13, q14, q15⟩ := (blk_j (a := Z6) (hW2.at (b := w.heap.size + 1) (cs := jc Z6) (t := 28) (by simp))).1
    have q1l := blk_lt (hW2.at (b := w.heap.size + 1) (cs := jc Z6) (t := 28) (by simp))
    have q1f := blk_free0 (hW2.at (b := w.heap.size + 1) (cs := jc Z6) (t := 28) (by simp))
    have hBF := hW2.B
    go_wp2
    exact bodyPost_ret (v := jnb none) (by simp [results, Tryz.results11, go_sem, *]) rfl ⟨by rw [HR.out]; rfl, by exact below_⟩
  cases q
  · skip
    obtain ⟨q10, q11, q12, q13, q14, q15⟩ := (blk_j (a := Z6) (hW2.at (b := w.heap.size + 1) (cs := jc Z6) (t := 28) (by simp))).1
    have q1l := blk_lt (hW2.at (b := w.heap.size + 1) (cs := jc Z6) (t := 28) (by simp))
    have q1f := blk_free0 (hW2.at (b := w.heap.size + 1) (cs := jc Z6) (t := 28) (by simp))
    have hBF := hW2.B
    go_wp2
    exact bodyPost_ret (v := jnb none) (by simp [results, Tryz.results11, go_sem, *]) rfl ⟨by rw [HR.out]; rfl, by exact below_⟩
  obtain rfl : F = F0 := by rw [← HF.out, ← HF0.out]; rfl
  go_upto_region 8 with (first | (go_at_call 36; (with_reducible refine (sphase_m k F _ hk0 hk3 HF0).mono ?_); rintro e v3 ⟨rfl, hb⟩))
  have hP := hW2.push hb (frc F) 26
  obtain ⟨bF, hbb⟩ : ∃ b, b = v3.heap.size := ⟨_, rfl⟩
  have hbu := hb.size
  obtain ⟨W3, hW, hWr⟩ : ∃ W, W = v3.alloc (.cells #[.int .i64 F.re, .int .i64 F.im, .int .i64 F.den] 26) ∧ W = v3.alloc (.cells (frc F) 26) := ⟨_, rfl, rfl⟩
  rw [← hbb, ← hWr] at hP
  rw [← hbb] at hbu
  rw [← hW, ← hbb]
  have hW3 := hP
  clear hP hb hW hWr hW2
  clear hbb hbu
  obtain ⟨q30, q31, q32, q33, q34, q35⟩ := (blk_j (a := Y) (hW3.at (b := bY) (cs := jc Y) (t := 28) (by simp))).1
  have q3l := blk_lt (hW3.at (b := bY) (cs := jc Y) (t := 28) (by simp))
  obtain ⟨q40, q41, q42⟩ := blk_fr0 (f := F) (hW3.at (b := bF) (cs := frc F) (t := 26) (by simp))
  have q4l := blk_lt (hW3.at (b := bF) (cs := frc F) (t := 26) (by simp))
  go_upto_region 11 with (first | (go_at_call 37; (with_reducible refine (sjtimes_m Y Z F r _ HZ).mono ?_); rintro e v4 ⟨rfl, hb⟩))
  have hP := hW3.push hb (jc Z) 28
  obtain ⟨bZ, hbb⟩ : ∃ b, b = v4.heap.size := ⟨_, rfl⟩
  have hbu := hb.size
  obtain ⟨W4, hW, hWr⟩ : ∃ W, W = v4.alloc (.cells #[.int .i64 Z.x.re, .int .i64 Z.x.im, .int .i64 Z.x.den, .int .i64 Z.y.re, .int .i64 Z.y.im, .int .i64 Z.y.den] 28) ∧ W = v4.alloc (.cells (jc Z) 28) := ⟨_, rfl, rfl⟩
  rw [← hbb, ← hWr] at hP
  rw [← hbb] at hbu
  rw [← hW, ← hbb]
  have hW4 := hP
  clear hP hb hW hWr hW3
  clear hbb hbu
  clear q30 q31 q32 q33 q34 q35 q3l q40 q41 q42 q4l
  cases r
  · skip
    obtain ⟨q10, q11, q12, q13, q14, q15⟩ := (blk_j (a := Z6) (hW4.at (b := w.heap.size + 1) (cs := jc Z6) (t := 28) (by simp))).1
    have q1l := blk_lt (hW4.at (b := w.heap.size + 1) (cs := jc Z6) (t := 28) (by simp))
    have q1f := blk_free0 (hW4.at (b := w.heap.size + 1) (cs := jc Z6) (t := 28) (by simp))
    have hBF := hW4.B
    go_wp2
    exact bodyPost_ret (v := jnb none) (by simp [results, Tryz.results11, go_sem, *]) rfl ⟨by rw [HR.out]; rfl, by exact below_⟩
  obtain ⟨q20, q21, q22, q23, q24, q25⟩ := (blk_j (a := X) (hW4.at (b := bX) (cs := jc X) (t := 28) (by simp))).1
  have q2l := blk_lt (hW4.at (b := bX) (cs := jc X) (t := 28) (by simp))
  obtain ⟨q50, q51, q52, q53, q54, q55⟩ := (blk_j (a := Z) (hW4.at (b := bZ) (cs := jc Z) (t := 28) (by simp))).1
  have q5l := blk_lt (hW4.at (b := bZ) (cs := jc Z) (t := 28) (by simp))
  go_upto_region 14 with (first | (go_at_call 38; (with_reducible refine (sjadd_m X Z S t _ HS).mono ?_); rintro e v5 ⟨rfl, hb⟩))
  have hP := hW4.push hb (jc S) 28
  obtain ⟨bS, hbb⟩ : ∃ b, b = v5.heap.size := ⟨_, rfl⟩
  have hbu := hb.size
  obtain ⟨W5, hW, hWr⟩ : ∃ W, W = v5.alloc (.cells #[.int .i64 S.x.re, .int .i64 S.x.im, .int .i64 S.x.den, .int .i64 S.y.re, .int .i64 S.y.im, .int .i64 S.y.den] 28) ∧ W = v5.alloc (.cells (jc S) 28) := ⟨_, rfl, rfl⟩
  rw [← hbb, ← hWr] at hP
  rw [← hbb] at hbu
  rw [← hW, ← hbb]
  have hW5 := hP
  clear hP hb hW hWr hW4
  clear hbb hbu
  clear q20 q21 q22 q23 q24 q25 q2l q50 q51 q52 q53 q54 q55 q5l
  cases t
  · skip
    obtain ⟨q10, q11, q12, q13, q14, q15⟩ := (blk_j (a := Z6) (hW5.at (b := w.heap.size + 1) (cs := jc Z6) (t := 28) (by simp))).1
    have q1l := blk_lt (hW5.at (b := w.heap.size + 1) (cs := jc Z6) (t := 28) (by simp))
    have q1f := blk_free0 (hW5.at (b := w.heap.size + 1) (cs := jc Z6) (t := 28) (by simp))
    have hBF := hW5.B
    go_wp2
    exact bodyPost_ret (v := jnb none) (by simp [results, Tryz.results11, go_sem, *]) rfl ⟨by rw [HR.out]; rfl, by exact below_⟩
  obtain ⟨q10, q11, q12, q13, q14, q15⟩ := (blk_j (a := Z6) (hW5.at (b := w.heap.size + 1) (cs := jc Z6) (t := 28) (by simp))).1
  have q1l := blk_lt (hW5.at (b := w.heap.size + 1) (cs := jc Z6) (t := 28) (by simp))
  have q1f := blk_free0 (hW5.at (b := w.heap.size + 1) (cs := jc Z6) (t := 28) (by simp))
  obtain ⟨q60, q61, q62, q63, q64, q65⟩ := (blk_j (a := S) (hW5.at (b := bS) (cs := jc S) (t := 28) (by simp))).1
  have q6l := blk_lt (hW5.at (b := bS) (cs := jc S) (t := 28) (by simp))
  have hBF := hW5.B
  go_wp2_with (first | (go_at_call 37; (with_reducible refine (sjtimes_m S O ⟨1, 0, 2⟩ u _ HO).mono ?_); rintro e w9 ⟨rfl, hb⟩; have hQ := hW5.step hb; have hR := hQ.at (b := w.heap.size + 1) (cs := jc Z6) (t := 28) (by simp); have hRf := blk_free0 hR; obtain ⟨y0, y1, y2, y3, y4, y5⟩ := (blk_j hR).1; have hRl := blk_lt hR; have hBF := hQ.B; clear hb))
  have hv : jnb R = .tuple #[jnv O, .bool u] := by
    rw [HR.out]
    cases u
    · have h1 := HO.out
      cases h2 : jtimesI S ⟨1, 0, 2⟩ with
      | none => rw [h2] at h1; obtain ⟨rfl, -⟩ := h1; rfl
      | some x => rw [h2] at h1; cases h1.2
    · rfl
  exact bodyPost_ret (v := .tuple #[jnv O, .bool u]) (by simp [results, Tryz.results11, go_sem, *]) rfl ⟨by rw [hv], by exact below_⟩
set_option maxRecDepth 100000 in
set_option maxHeartbeats 8000000 in
theorem sport_t (a b : ByteArray) (k : Int) (v : Jn) (w : World) (hk : inB k 0 3 = true) :
    Calls Tryz.prog 11 #[.string a, .string b, .int .i64 k, jnv v, .bool true] w fun e w' => e = .returned (jnb (portI a.data.toList b.data.toList k v true)) ∧ Below w.heap.size w w' := by
  obtain ⟨X, p, hX⟩ : ∃ X p, (runI a.data.toList v).getD Z6 = X ∧ (runI a.data.toList v).isSome = p := ⟨_, _, rfl, rfl⟩
  obtain ⟨Y, q, hY⟩ : ∃ X p, (runI b.data.toList v).getD Z6 = X ∧ (runI b.data.toList v).isSome = p := ⟨_, _, rfl, rfl⟩
  obtain ⟨F0, hF0⟩ : ∃ F, phF k = F := ⟨_, rfl⟩
  obtain ⟨F, hF⟩ : ∃ F, phF (if true then (k + 2) % 4 else k) = F := ⟨_, rfl⟩
  obtain ⟨Z, r, hZ⟩ : ∃ X p, (jtimesI Y F).getD Z6 = X ∧ (jtimesI Y F).isSome = p := ⟨_, _, rfl, rfl⟩
  obtain ⟨S, t, hS⟩ : ∃ X1 p, (jaddI X Z).getD Z6 = X1 ∧ (jaddI X Z).isSome = p := ⟨_, _, rfl, rfl⟩
  obtain ⟨O, u, hO⟩ : ∃ X p, (jtimesI S ⟨1, 0, 2⟩).getD Z6 = X ∧ (jtimesI S ⟨1, 0, 2⟩).isSome = p := ⟨_, _, rfl, rfl⟩
  have hgo := portI_go (s := true) hk hX hY hF hZ hS hO
  obtain ⟨R, hR⟩ : ∃ R, portI a.data.toList b.data.toList k v true = R := ⟨_, rfl⟩
  rw [hR] at hgo ⊢
  have HR := Lib.hid hgo
  have hkb := inB_iff.1 hk
  have hk0 := hkb.1
  have hk3 := hkb.2
  obtain ⟨k2, hk2⟩ : ∃ k2, (k + 2) % 4 = k2 := ⟨_, rfl⟩
  have hkw : IntKind.i64.wrap (k + 2) = k + 2 := IntWalk.i64_in _ (by omega)
  have hkt : Int.tmod (k + 2) 4 = k2 := by rw [← hk2]; exact Int.tmod_eq_emod_of_nonneg (by omega)
  have hkv : IntKind.i64.wrap k2 = k2 := IntWalk.i64_in _ (by omega)
  have hk20 : 0 ≤ k2 := by omega
  have hk23 : k2 ≤ 3 := by omega
  have HF2 : Hid (phF k2 = F) := Lib.hid (by rw [← hk2]; exact hF)
  clear hk2
  have HX := Lib.hid hX
  have HY := Lib.hid hY
  have HF0 := Lib.hid hF0
  have HF := Lib.hid hF
  have HZ := Lib.hid hZ
  have HS := Lib.hid hS
  have HO := Lib.hid hO
  clear hX hY hF hF0 hZ hS hO hgo hkb hR
  go_enter Tryz.func11, Tryz.ntmps11
  obtain ⟨W0, hW, hW0⟩ : ∃ W, W = (w.alloc (.cells #[.int .i64 v.x.re, .int .i64 v.x.im, .int .i64 v.x.den, .int .i64 v.y.re, .int .i64 v.y.im, .int .i64 v.y.den] 28)).alloc (.cells #[.int .i64 0, .int .i64 0, .int .i64 0, .int .i64 0, .int .i64 0, .int .i64 0] 28) ∧ BW w [(w.heap.size + 1, jc Z6, 28), (w.heap.size, jc v, 28)] W := by
    refine ⟨_, rfl, ?_⟩
    have h1 := BW.one w (jc v) 28
    have h2 := h1.push (Below.refl _ _) (jc Z6) 28
    simp only [World.size_alloc] at h2
    exact h2
  go_upto_region 1 with fail
  rw [← hW]
  clear hW
  go_upto_region 3 with (first | (go_at_call 34; refine (l6in_o _ _ _ _ _ hk).mono ?_; rintro e w1 ⟨rfl, hw⟩; obtain rfl := hw.symm))
  clear hk
  obtain ⟨q00, q01, q02, q03, q04, q05⟩ := (blk_j (a := v) (hW0.at (b := w.heap.size) (cs := jc v) (t := 28) (by simp))).1
  have q0l := blk_lt (hW0.at (b := w.heap.size) (cs := jc v) (t := 28) (by simp))
  go_upto_region 4 with (first | (go_at_call 35; (with_reducible refine (srun_m a v X p _ HX).mono ?_); rintro e v1 ⟨rfl, hb⟩))
  have hP := hW0.push hb (jc X) 28
  obtain ⟨bX, hbb⟩ : ∃ b, b = v1.heap.size := ⟨_, rfl⟩
  have hbu := hb.size
  obtain ⟨W1, hW, hWr⟩ : ∃ W, W = v1.alloc (.cells #[.int .i64 X.x.re, .int .i64 X.x.im, .int .i64 X.x.den, .int .i64 X.y.re, .int .i64 X.y.im, .int .i64 X.y.den] 28) ∧ W = v1.alloc (.cells (jc X) 28) := ⟨_, rfl, rfl⟩
  rw [← hbb, ← hWr] at hP
  rw [← hbb] at hbu
  rw [← hW, ← hbb]
  have hW1 := hP
  clear hP hb hW hWr hW0
  clear hbb hbu
  clear q00 q01 q02 q03 q04 q05 q0l
  obtain ⟨q00, q01, q02, q03, q04, q05⟩ := (blk_j (a := v) (hW1.at (b := w.heap.size) (cs := jc v) (t := 28) (by simp))).1
  have q0l := blk_lt (hW1.at (b := w.heap.size) (cs := jc v) (t := 28) (by simp))
  go_upto_region 5 with (first | (go_at_call 35; (with_reducible refine (srun_m b v Y q _ HY).mono ?_); rintro e v2 ⟨rfl, hb⟩))
  have hP := hW1.push hb (jc Y) 28
  obtain ⟨bY, hbb⟩ : ∃ b, b = v2.heap.size := ⟨_, rfl⟩
  have hbu := hb.size
  obtain ⟨W2, hW, hWr⟩ : ∃ W, W = v2.alloc (.cells #[.int .i64 Y.x.re, .int .i64 Y.x.im, .int .i64 Y.x.den, .int .i64 Y.y.re, .int .i64 Y.y.im, .int .i64 Y.y.den] 28) ∧ W = v2.alloc (.cells (jc Y) 28) := ⟨_, rfl, rfl⟩
  rw [← hbb, ← hWr] at hP
  rw [← hbb] at hbu
  rw [← hW, ← hbb]
  have hW2 := hP
  clear hP hb hW hWr hW1
  clear hbb hbu
  clear q00 q01 q02 q03 q04 q05 q0l
  cases p
  · skip
    obtain ⟨q10, q11, q12, q13, q14, q15⟩ := (blk_j (a := Z6) (hW2.at (b := w.heap.size + 1) (cs := jc Z6) (t := 28) (by simp))).1
    have q1l := blk_lt (hW2.at (b := w.heap.size + 1) (cs := jc Z6) (t := 28) (by simp))
    have q1f := blk_free0 (hW2.at (b := w.heap.size + 1) (cs := jc Z6) (t := 28) (by simp))
    have hBF := hW2.B
    go_wp2
    exact bodyPost_ret (v := jnb none) (by simp [results, Tryz.results11, go_sem, *]) rfl ⟨by rw [HR.out]; rfl, by exact below_⟩
  cases q
  · skip
    obtain ⟨q10, q11, q12, q13, q14, q15⟩ := (blk_j (a := Z6) (hW2.at (b := w.heap.size + 1) (cs := jc Z6) (t := 28) (by simp))).1
    have q1l := blk_lt (hW2.at (b := w.heap.size + 1) (cs := jc Z6) (t := 28) (by simp))
    have q1f := blk_free0 (hW2.at (b := w.heap.size + 1) (cs := jc Z6) (t := 28) (by simp))
    have hBF := hW2.B
    go_wp2
    exact bodyPost_ret (v := jnb none) (by simp [results, Tryz.results11, go_sem, *]) rfl ⟨by rw [HR.out]; rfl, by exact below_⟩
  go_upto_region 8 with (first | (go_at_call 36; (with_reducible refine (sphase_m k F0 _ hk0 hk3 HF0).mono ?_); rintro e v3 ⟨rfl, hb⟩))
  have hP := hW2.push hb (frc F0) 26
  obtain ⟨bF, hbb⟩ : ∃ b, b = v3.heap.size := ⟨_, rfl⟩
  have hbu := hb.size
  obtain ⟨W3, hW, hWr⟩ : ∃ W, W = v3.alloc (.cells #[.int .i64 F0.re, .int .i64 F0.im, .int .i64 F0.den] 26) ∧ W = v3.alloc (.cells (frc F0) 26) := ⟨_, rfl, rfl⟩
  rw [← hbb, ← hWr] at hP
  rw [← hbb] at hbu
  rw [← hW, ← hbb]
  have hW3 := hP
  clear hP hb hW hWr hW2
  clear hbb hbu
  obtain ⟨q40, q41, q42⟩ := blk_fr0 (f := F0) (hW3.at (b := bF) (cs := frc F0) (t := 26) (by simp))
  have q4l := blk_lt (hW3.at (b := bF) (cs := frc F0) (t := 26) (by simp))
  have q4f := blk_free0 (hW3.at (b := bF) (cs := frc F0) (t := 26) (by simp))
  go_upto_region 10 with (first | (go_at_call 36; (with_reducible refine (sphase_m k2 F _ hk20 hk23 HF2).mono ?_); rintro e w9 ⟨rfl, hb⟩; have hQ := hW3.step hb; have hQf := blk_free0 hQ.top; have hQl := blk_lt hQ.top; obtain ⟨y0, y1, y2⟩ := blk_fr0 hQ.top))
  obtain ⟨W4, hW, hW4⟩ : ∃ W, W = ((w9.setCell ⟨bF, 0, none⟩ (.int .i64 F.re)).setCell ⟨bF, 1, none⟩ (.int .i64 F.im)).setCell ⟨bF, 2, none⟩ (.int .i64 F.den) ∧ BW w ((bF, frc F, 26) :: [(bY, jc Y, 28), (bX, jc X, 28), (w.heap.size + 1, jc Z6, 28), (w.heap.size, jc v, 28)]) W := by
    refine ⟨_, rfl, hQ.set (by have := hW3.lo _ (by simp : (bF, frc F0, 26) ∈ _); exact (((Below.refl _ _).setCell this _).setCell this _).setCell this _) (fun c hc => ?_) (by simp [Blk, World.setCell, Array.getElem?_modify, hQ.top, frc])⟩
    exact (Below.heap_setCell _ _ _ c hc).trans ((Below.heap_setCell _ _ _ c hc).trans (Below.heap_setCell _ _ _ c hc))
  rw [← hW]
  clear hW hQ hQf hQl y0 y1 y2 hb hW3 q40 q41 q42 q4l q4f
  obtain ⟨q30, q31, q32, q33, q34, q35⟩ := (blk_j (a := Y) (hW4.at (b := bY) (cs := jc Y) (t := 28) (by simp))).1
  have q3l := blk_lt (hW4.at (b := bY) (cs := jc Y) (t := 28) (by simp))
  obtain ⟨q40, q41, q42⟩ := blk_fr0 (f := F) (hW4.at (b := bF) (cs := frc F) (t := 26) (by simp))
  have q4l := blk_lt (hW4.at (b := bF) (cs := frc F) (t := 26) (by simp))
  go_upto_region 11 with (first | (go_at_call 37; (with_reducible refine (sjtimes_m Y Z F r _ HZ).mono ?_); rintro e v5 ⟨rfl, hb⟩))
  have hP := hW4.push hb (jc Z) 28
  obtain ⟨bZ, hbb⟩ : ∃ b, b = v5.heap.size := ⟨_, rfl⟩
  have hbu := hb.size
  obtain ⟨W5, hW, hWr⟩ : ∃ W, W = v5.alloc (.cells #[.int .i64 Z.x.re, .int .i64 Z.x.im, .int .i64 Z.x.den, .int .i64 Z.y.re, .int .i64 Z.y.im, .int .i64 Z.y.den] 28) ∧ W = v5.alloc (.cells (jc Z) 28) := ⟨_, rfl, rfl⟩
  rw [← hbb, ← hWr] at hP
  rw [← hbb] at hbu
  rw [← hW, ← hbb]
  have hW5 := hP
  clear hP hb hW hWr hW4
  clear hbb hbu
  clear q30 q31 q32 q33 q34 q35 q3l q40 q41 q42 q4l
  cases r
  · skip
    obtain ⟨q10, q11, q12, q13, q14, q15⟩ := (blk_j (a := Z6) (hW5.at (b := w.heap.size + 1) (cs := jc Z6) (t := 28) (by simp))).1
    have q1l := blk_lt (hW5.at (b := w.heap.size + 1) (cs := jc Z6) (t := 28) (by simp))
    have q1f := blk_free0 (hW5.at (b := w.heap.size + 1) (cs := jc Z6) (t := 28) (by simp))
    have hBF := hW5.B
    go_wp2
    exact bodyPost_ret (v := jnb none) (by simp [results, Tryz.results11, go_sem, *]) rfl ⟨by rw [HR.out]; rfl, by exact below_⟩
  obtain ⟨q20, q21, q22, q23, q24, q25⟩ := (blk_j (a := X) (hW5.at (b := bX) (cs := jc X) (t := 28) (by simp))).1
  have q2l := blk_lt (hW5.at (b := bX) (cs := jc X) (t := 28) (by simp))
  obtain ⟨q50, q51, q52, q53, q54, q55⟩ := (blk_j (a := Z) (hW5.at (b := bZ) (cs := jc Z) (t := 28) (by simp))).1
  have q5l := blk_lt (hW5.at (b := bZ) (cs := jc Z) (t := 28) (by simp))
  go_upto_region 14 with (first | (go_at_call 38; (with_reducible refine (sjadd_m X Z S t _ HS).mono ?_); rintro e v6 ⟨rfl, hb⟩))
  have hP := hW5.push hb (jc S) 28
  obtain ⟨bS, hbb⟩ : ∃ b, b = v6.heap.size := ⟨_, rfl⟩
  have hbu := hb.size
  obtain ⟨W6, hW, hWr⟩ : ∃ W, W = v6.alloc (.cells #[.int .i64 S.x.re, .int .i64 S.x.im, .int .i64 S.x.den, .int .i64 S.y.re, .int .i64 S.y.im, .int .i64 S.y.den] 28) ∧ W = v6.alloc (.cells (jc S) 28) := ⟨_, rfl, rfl⟩
  rw [← hbb, ← hWr] at hP
  rw [← hbb] at hbu
  rw [← hW, ← hbb]
  have hW6 := hP
  clear hP hb hW hWr hW5
  clear hbb hbu
  clear q20 q21 q22 q23 q24 q25 q2l q50 q51 q52 q53 q54 q55 q5l
  cases t
  · skip
    obtain ⟨q10, q11, q12, q13, q14, q15⟩ := (blk_j (a := Z6) (hW6.at (b := w.heap.size + 1) (cs := jc Z6) (t := 28) (by simp))).1
    have q1l := blk_lt (hW6.at (b := w.heap.size + 1) (cs := jc Z6) (t := 28) (by simp))
    have q1f := blk_free0 (hW6.at (b := w.heap.size + 1) (cs := jc Z6) (t := 28) (by simp))
    have hBF := hW6.B
    go_wp2
    exact bodyPost_ret (v := jnb none) (by simp [results, Tryz.results11, go_sem, *]) rfl ⟨by rw [HR.out]; rfl, by exact below_⟩
  obtain ⟨q10, q11, q12, q13, q14, q15⟩ := (blk_j (a := Z6) (hW6.at (b := w.heap.size + 1) (cs := jc Z6) (t := 28) (by simp))).1
  have q1l := blk_lt (hW6.at (b := w.heap.size + 1) (cs := jc Z6) (t := 28) (by simp))
  have q1f := blk_free0 (hW6.at (b := w.heap.size + 1) (cs := jc Z6) (t := 28) (by simp))
  obtain ⟨q60, q61, q62, q63, q64, q65⟩ := (blk_j (a := S) (hW6.at (b := bS) (cs := jc S) (t := 28) (by simp))).1
  have q6l := blk_lt (hW6.at (b := bS) (cs := jc S) (t := 28) (by simp))
  have hBF := hW6.B
  go_wp2_with (first | (go_at_call 37; (with_reducible refine (sjtimes_m S O ⟨1, 0, 2⟩ u _ HO).mono ?_); rintro e w9 ⟨rfl, hb⟩; have hQ := hW6.step hb; have hR := hQ.at (b := w.heap.size + 1) (cs := jc Z6) (t := 28) (by simp); have hRf := blk_free0 hR; obtain ⟨y0, y1, y2, y3, y4, y5⟩ := (blk_j hR).1; have hRl := blk_lt hR; have hBF := hQ.B; clear hb))
  have hv : jnb R = .tuple #[jnv O, .bool u] := by
    rw [HR.out]
    cases u
    · have h1 := HO.out
      cases h2 : jtimesI S ⟨1, 0, 2⟩ with
      | none => rw [h2] at h1; obtain ⟨rfl, -⟩ := h1; rfl
      | some x => rw [h2] at h1; cases h1.2
    · rfl
  exact bodyPost_ret (v := .tuple #[jnv O, .bool u]) (by simp [results, Tryz.results11, go_sem, *]) rfl ⟨by rw [hv], by exact below_⟩
theorem sport_any (a b : ByteArray) (k : Int) (v : Jn) (s : Bool) (w : World) :
    Calls Tryz.prog 11 #[.string a, .string b, .int .i64 k, jnv v, .bool s] w fun e w' => e = .returned (jnb (portI a.data.toList b.data.toList k v s)) ∧ Below w.heap.size w w' := by
  cases hk : inB k 0 3
  · rw [show portI a.data.toList b.data.toList k v s = none by simp [portI, hk]]
    exact sport_no a b k v s w hk
  · cases s
    · exact sport_f a b k v w hk
    · exact sport_t a b k v w hk
end Go.Proofs.YtkdggljioekkhaaGreatDoor
