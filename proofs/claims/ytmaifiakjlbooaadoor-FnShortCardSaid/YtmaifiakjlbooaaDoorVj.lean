/-
  The walk of the statement on short fibres: it returns true, whatever the bytes.
-/
import Derived.Test.YtmaifiakjlbooaaDoorVi
import Derived.Test.YtmaifiakjlbooaaDoorVe
import Derived.Test.YtmaifiakjlbooaaDoorSi
import Derived.Test.YtmaifiakjlbooaaDoorSj
import Derived.Test.YtmaifiakjlbooaaDoorGc
import Derived.DeepKeys
namespace Go.Proofs.YtmaifiakjlbooaaDoor
set_option linter.unusedSimpArgs false
set_option linter.unusedVariables false
open Go.RowKit
attribute [local go_sem ↓] Go.wp_at_zero Go.wp_at_succ
theorem part_f (m : Mt) (w : World) : (part 29 #[.int .i64 m.a.re, .int .i64 m.a.im, .int .i64 m.a.den, .int .i64 m.b.re, .int .i64 m.b.im, .int .i64 m.b.den, .int .i64 m.c.re, .int .i64 m.c.im, .int .i64 m.c.den, .int .i64 m.d.re, .int .i64 m.d.im, .int .i64 m.d.den] 0).run Tryd.prog w = .ok (frv m.a) w ∧ (part 29 #[.int .i64 m.a.re, .int .i64 m.a.im, .int .i64 m.a.den, .int .i64 m.b.re, .int .i64 m.b.im, .int .i64 m.b.den, .int .i64 m.c.re, .int .i64 m.c.im, .int .i64 m.c.den, .int .i64 m.d.re, .int .i64 m.d.im, .int .i64 m.d.den] 3).run Tryd.prog w = .ok (frv m.b) w ∧ (part 29 #[.int .i64 m.a.re, .int .i64 m.a.im, .int .i64 m.a.den, .int .i64 m.b.re, .int .i64 m.b.im, .int .i64 m.b.den, .int .i64 m.c.re, .int .i64 m.c.im, .int .i64 m.c.den, .int .i64 m.d.re, .int .i64 m.d.im, .int .i64 m.d.den] 6).run Tryd.prog w = .ok (frv m.c) w ∧ (part 29 #[.int .i64 m.a.re, .int .i64 m.a.im, .int .i64 m.a.den, .int .i64 m.b.re, .int .i64 m.b.im, .int .i64 m.b.den, .int .i64 m.c.re, .int .i64 m.c.im, .int .i64 m.c.den, .int .i64 m.d.re, .int .i64 m.d.im, .int .i64 m.d.den] 9).run Tryd.prog w = .ok (frv m.d) w := ⟨by kernel_rfl, by kernel_rfl, by kernel_rfl, by kernel_rfl⟩
theorem part_i (a : Fr) (w : World) : (part 3 #[.int .i64 a.re, .int .i64 a.im, .int .i64 a.den] 0).run Tryd.prog w = .ok (.int .i64 a.re) w ∧ (part 3 #[.int .i64 a.re, .int .i64 a.im, .int .i64 a.den] 1).run Tryd.prog w = .ok (.int .i64 a.im) w ∧ (part 3 #[.int .i64 a.re, .int .i64 a.im, .int .i64 a.den] 2).run Tryd.prog w = .ok (.int .i64 a.den) w := ⟨by kernel_rfl, by kernel_rfl, by kernel_rfl⟩
theorem fields_f : (Tryd.prog.fieldsOf 29).toList.map (fun f => (f.name == "_", f.type, f.offset)) = [(false, 3, 0), (false, 3, 1), (false, 3, 2)] := by kernel_rfl
theorem eqF_run (d : Nat) (a : Fr) (w : World) : (Op.equalIn (d + 2) 29 (frv a) (frv a)).run Tryd.prog w = .ok true w := by
  rw [run_equalIn_struct w (d + 1) _ _ _ (by kernel_rfl) (by kernel_rfl)]
  have hf := fields_f
  generalize (Tryd.prog.fieldsOf 29).toList = fs at hf
  obtain ⟨f0, f1, f2, rfl⟩ : ∃ f0 f1 f2, fs = [f0, f1, f2] := by
    have hl : fs.length = 3 := by simpa using congrArg List.length hf
    rcases fs with _ | ⟨f0, _ | ⟨f1, _ | ⟨f2, _ | ⟨f3, fs⟩⟩⟩⟩
    · simp at hl
    · simp at hl
    · simp at hl
    · exact ⟨f0, f1, f2, rfl⟩
    · simp at hl
  simp only [List.map_cons, List.map_nil, List.cons.injEq, Prod.mk.injEq, and_true] at hf
  obtain ⟨⟨n0, t0, o0⟩, ⟨n1, t1, o1⟩, ⟨n2, t2, o2⟩⟩ := hf
  obtain ⟨p0, p1, p2⟩ := part_i a w
  have ei : ∀ x : Int, (Op.equalIn (d + 1) 3 (.int .i64 x) (.int .i64 x)).run Tryd.prog w = .ok true w := fun x => by
    rw [run_equalIn_int w d 3 .i64 .i64 x x Tryd.underlying3]; simp
  have m0 : f0.name ≠ "_" := by simpa using n0
  have m1 : f1.name ≠ "_" := by simpa using n1
  have m2 : f2.name ≠ "_" := by simpa using n2
  simp only [Op.eqFields, Sem.run_bind, t0, t1, t2, o0, o1, o2, m0, m1, m2, ne_eq, not_false_eq_true, if_true, p0, p1, p2, ei, Result.andThen_ok, Bool.not_true, Bool.false_eq_true, if_false, Sem.run_pure]
theorem eqM_run (m : Mt) (w : World) : (Op.equalIn 9999 30 (mtv m) (mtv m)).run Tryd.prog w = .ok true w := by
  obtain ⟨i, hi⟩ : ∃ i, Tryd.prog.info? 29 = some i := Option.isSome_iff_exists.1 (by kernel_rfl)
  rw [show (9999 : Nat) = 9998 + 1 from rfl, run_equalIn_array w 9998 _ _ Tryd.underlying30 hi]
  obtain ⟨p0, p1, p2, p3⟩ := part_f m w
  have e : ∀ a : Fr, (Op.equalIn 9998 29 (frv a) (frv a)).run Tryd.prog w = .ok true w := fun a => eqF_run 9996 a w
  simp only [show List.range 4 = [0, 1, 2, 3] from rfl, show Tryd.prog.cellsOf 29 = 3 by kernel_rfl, Op.eqItems, Sem.run_bind, Nat.zero_mul, Nat.one_mul, show 2 * 3 = 6 from rfl, show 3 * 3 = 9 from rfl, p0, p1, p2, p3, e, Result.andThen_ok, Bool.not_true, Bool.false_eq_true, if_false, Sem.run_pure]
attribute [local go_sem] eqM_run
set_option maxRecDepth 100000 in
set_option maxHeartbeats 4000000 in
theorem fnShort_walk (A : Option Addr) (len cap : Nat) (w : World) (hby : Bytes A len cap w) (hGO : GO w) (hGZ : GZ w) (hGT : GT w) (hGS : GS w) :
    Calls Tryd.prog 4 #[.slice A len cap] w fun e w' => e = .returned (.bool true) ∧ Below w.heap.size w w' := by
  by_cases hl : len ≤ 1048576
  · have hd : decide ((1048576 : Int) < (len : Int)) = false := by simp; omega
    go_enter Tryd.func4, Tryd.ntmps4
    go_wp2_with (go_at_call 18; (with_reducible refine (drawFibreShort_any A len cap _ hby).mono ?_); rintro e w1 ⟨xs, v, rfl, ⟨hO, hl7⟩, hB⟩; refine Hid.out ?_)
    refine Lib.hid ?_
    obtain ⟨A1, c1, rfl, -⟩ := hO.secs
    go_wp2_with (go_at_call 19; (with_reducible refine (short_any A1 _ c1 xs _ hO.read).mono ?_); rintro e w2 ⟨v2, rfl, hO2, hb⟩; refine Hid.out ?_)
    refine Lib.hid ?_
    have hB := bstep hB hb hB.size
    have hO := hO.below hb
    clear hb
    obtain ⟨A2, c2, rfl, -⟩ := hO2.secs
    go_wp2_with (go_at_call 20; (with_reducible refine (sshort_any A1 _ c1 xs _ hO.read).mono ?_); rintro e w3 ⟨v3, rfl, hO3, hb⟩; refine Hid.out ?_)
    refine Lib.hid ?_
    have hB := bstep hB hb hB.size
    have hO := hO.below hb
    have hO2 := hO2.below hb
    clear hb
    obtain ⟨A3, c3, rfl, -⟩ := hO3.secs
    go_wp2_with (go_at_call 21; (with_reducible refine (sameFibre_refl A2 A3 _ c2 c3 _ _ hO2.read hO3.read).mono ?_); rintro e w4 ⟨rfl, hb⟩; refine Hid.out ?_)
    refine Lib.hid ?_
    have hB := bstep hB hb hB.size
    have hO := hO.below hb
    have hO2 := hO2.below hb
    have hO3 := hO3.below hb
    clear hb
    cases hf : fibOk xs
    · go_wp2_with (go_at_call 21; (with_reducible refine (sameFibre_refl A2 A3 _ c2 c3 _ _ hO2.read hO3.read).mono ?_); rintro e w5 ⟨rfl, hb⟩; have hB5 : Below w.heap.size w w5 := bstep hB hb hB.size; clear hb)
      go_ret
      exact ⟨rfl, by (repeat' (first | (with_reducible exact Below.refl _ _) | (with_reducible assumption) | (with_reducible refine Below.setCell ?_ (by first | omega | (simp; done) | (simp; omega)) _) | (with_reducible refine Below.alloc ?_ (by first | omega | (simp; done) | (simp; omega)) _) | (with_reducible refine below_drewN ?_ _) | (with_reducible refine Below.drew ?_)))⟩
    · have hss := short_short hf
      have hso := shortI_ok hf
      have hsl := short_len hf
      clear hO3
      obtain ⟨M, hM⟩ : ∃ M, M = (fibMatI xs).getD ⟨⟨0, 0, 0⟩, ⟨0, 0, 0⟩, ⟨0, 0, 0⟩, ⟨0, 0, 0⟩⟩ := ⟨_, rfl⟩
      obtain ⟨fl, hfl⟩ : ∃ fl, fl = (fibMatI xs).isSome := ⟨_, rfl⟩
      obtain ⟨N, hN⟩ : ∃ N, N = (fibMatI (shortI xs)).getD ⟨⟨0, 0, 0⟩, ⟨0, 0, 0⟩, ⟨0, 0, 0⟩, ⟨0, 0, 0⟩⟩ := ⟨_, rfl⟩
      obtain ⟨gl, hgl⟩ : ∃ gl, gl = (fibMatI (shortI xs)).isSome := ⟨_, rfl⟩
      have HC := Lib.hid (show mtb (fibMatI xs) = .tuple #[mtv M, .bool fl] by rw [hM, hfl])
      have HD := Lib.hid (show mtb (fibMatI (shortI xs)) = .tuple #[mtv N, .bool gl] by rw [hN, hgl])
      have HEQ := Lib.hid (show fl = true → gl = true → M = N by
        intro h1 h2
        cases hx : fibMatI xs with
        | none => rw [hfl, hx] at h1; cases h1
        | some m =>
          cases hy : fibMatI (shortI xs) with
          | none => rw [hgl, hy] at h2; cases h2
          | some n => rw [hM, hN, hx, hy]; exact short_mat hf hx hy)
      clear hM hfl hN hgl
      go_wp2_with (go_at_call 19; (with_reducible refine (short_any A2 _ c2 _ _ hO2.read).mono ?_); rintro e w5 ⟨v5, rfl, hO5, hb⟩; refine Hid.out ?_)
      refine Lib.hid ?_
      rw [hss] at hO5
      have hB := bstep hB hb hB.size
      have hO := hO.below hb
      have hO2 := hO2.below hb
      clear hb
      obtain ⟨A5, c5, rfl, -⟩ := hO5.secs
      go_wp2_with (go_at_call 16; (with_reducible refine (fibMat_m A1 _ c1 xs M fl _ hO.read (hGO.below hB) (hGZ.below hB) (hGT.below hB) (hGS.below hB) HC.out).mono ?_); rintro e w6 ⟨rfl, hb⟩; refine Hid.out ?_)
      refine Lib.hid ?_
      have hB := bstep hB hb hB.size
      have hz6 := hB.size
      have hM6 := MtAt.new w6 M 32
      have hO2 := (hO2.below hb).alloc (.cells #[.int .i64 M.a.re, .int .i64 M.a.im, .int .i64 M.a.den, .int .i64 M.b.re, .int .i64 M.b.im, .int .i64 M.b.den, .int .i64 M.c.re, .int .i64 M.c.im, .int .i64 M.c.den, .int .i64 M.d.re, .int .i64 M.d.im, .int .i64 M.d.den] 32)
      have hO5 := (hO5.below hb).alloc (.cells #[.int .i64 M.a.re, .int .i64 M.a.im, .int .i64 M.a.den, .int .i64 M.b.re, .int .i64 M.b.im, .int .i64 M.b.den, .int .i64 M.c.re, .int .i64 M.c.im, .int .i64 M.c.den, .int .i64 M.d.re, .int .i64 M.d.im, .int .i64 M.d.den] 32)
      have hB6 : Below w.heap.size w (w6.alloc (.cells #[.int .i64 M.a.re, .int .i64 M.a.im, .int .i64 M.a.den, .int .i64 M.b.re, .int .i64 M.b.im, .int .i64 M.b.den, .int .i64 M.c.re, .int .i64 M.c.im, .int .i64 M.c.den, .int .i64 M.d.re, .int .i64 M.d.im, .int .i64 M.d.den] 32)) := hB.alloc hz6 _
      clear hb hO hB
      go_wp2_with (go_at_call 16; (with_reducible refine (fibMat_m A2 _ c2 (shortI xs) N gl _ hO2.read (hGO.below hB6) (hGZ.below hB6) (hGT.below hB6) (hGS.below hB6) HD.out).mono ?_); rintro e w7 ⟨rfl, hb⟩; refine Hid.out ?_)
      refine Lib.hid ?_
      have hB7 : Below w.heap.size w w7 := bstep hB6 hb (by simp; omega)
      have hz7 := hB7.size
      have hM7 := (hM6.below hb (by simp)).alloc (.cells #[.int .i64 N.a.re, .int .i64 N.a.im, .int .i64 N.a.den, .int .i64 N.b.re, .int .i64 N.b.im, .int .i64 N.b.den, .int .i64 N.c.re, .int .i64 N.c.im, .int .i64 N.c.den, .int .i64 N.d.re, .int .i64 N.d.im, .int .i64 N.d.den] 32)
      have hN7 := MtAt.new w7 N 32
      have hO2 := (hO2.below hb).alloc (.cells #[.int .i64 N.a.re, .int .i64 N.a.im, .int .i64 N.a.den, .int .i64 N.b.re, .int .i64 N.b.im, .int .i64 N.b.den, .int .i64 N.c.re, .int .i64 N.c.im, .int .i64 N.c.den, .int .i64 N.d.re, .int .i64 N.d.im, .int .i64 N.d.den] 32)
      have hO5 := (hO5.below hb).alloc (.cells #[.int .i64 N.a.re, .int .i64 N.a.im, .int .i64 N.a.den, .int .i64 N.b.re, .int .i64 N.b.im, .int .i64 N.b.den, .int .i64 N.c.re, .int .i64 N.c.im, .int .i64 N.c.den, .int .i64 N.d.re, .int .i64 N.d.im, .int .i64 N.d.den] 32)
      have hB8 : Below w.heap.size w (w7.alloc (.cells #[.int .i64 N.a.re, .int .i64 N.a.im, .int .i64 N.a.den, .int .i64 N.b.re, .int .i64 N.b.im, .int .i64 N.b.den, .int .i64 N.c.re, .int .i64 N.c.im, .int .i64 N.c.den, .int .i64 N.d.re, .int .i64 N.d.im, .int .i64 N.d.den] 32)) := hB7.alloc hz7 _
      clear hb hM6 hB6
      go_wp2_with (go_at_call 21; (with_reducible refine (sameFibre_refl A5 A2 _ c5 c2 _ _ hO5.read hO2.read).mono ?_); rintro e w9 ⟨rfl, hb⟩; refine Hid.out ?_)
      refine Lib.hid ?_
      obtain ⟨m0, m1, m2, m3, m4, m5, m6, m7, m8, m9, m10, m11⟩ := hM7.below hb hM7.lt
      obtain ⟨n0, n1, n2, n3, n4, n5, n6, n7, n8, n9, n10, n11⟩ := hN7.below hb hN7.lt
      have hB9 : Below w.heap.size w w9 := bstep hB8 hb (by simp; omega)
      clear hb hM7 hN7 hO2 hO5
      cases hfl : fl
      · go_wp2
        go_ret
        exact ⟨rfl, by (repeat' (first | (with_reducible exact Below.refl _ _) | (with_reducible assumption) | (with_reducible refine Below.setCell ?_ (by first | omega | (simp; done) | (simp; omega)) _) | (with_reducible refine Below.alloc ?_ (by first | omega | (simp; done) | (simp; omega)) _) | (with_reducible refine below_drewN ?_ _) | (with_reducible refine Below.drew ?_)))⟩
      · cases hgl : gl
        · go_wp2
          go_ret
          exact ⟨rfl, by (repeat' (first | (with_reducible exact Below.refl _ _) | (with_reducible assumption) | (with_reducible refine Below.setCell ?_ (by first | omega | (simp; done) | (simp; omega)) _) | (with_reducible refine Below.alloc ?_ (by first | omega | (simp; done) | (simp; omega)) _) | (with_reducible refine below_drewN ?_ _) | (with_reducible refine Below.drew ?_)))⟩
        · obtain rfl := HEQ.out hfl hgl
          go_wp2
          go_ret
          exact ⟨rfl, by (repeat' (first | (with_reducible exact Below.refl _ _) | (with_reducible assumption) | (with_reducible refine Below.setCell ?_ (by first | omega | (simp; done) | (simp; omega)) _) | (with_reducible refine Below.alloc ?_ (by first | omega | (simp; done) | (simp; omega)) _) | (with_reducible refine below_drewN ?_ _) | (with_reducible refine Below.drew ?_)))⟩
  · have hd : decide ((1048576 : Int) < (len : Int)) = true := by simp; omega
    go_enter Tryd.func4, Tryd.ntmps4
    go_wp2
    go_ret
    exact ⟨rfl, by (repeat' (first | (with_reducible exact Below.refl _ _) | (with_reducible assumption) | (with_reducible refine Below.setCell ?_ (by first | omega | (simp; done) | (simp; omega)) _) | (with_reducible refine Below.alloc ?_ (by first | omega | (simp; done) | (simp; omega)) _) | (with_reducible refine below_drewN ?_ _) | (with_reducible refine Below.drew ?_)))⟩
end Go.Proofs.YtmaifiakjlbooaaDoor
