/-
  The walk of the statement on beats: it returns true, whatever the bytes.
-/
import Derived.Test.YtmaifiakjlbooaaDoorVd
import Derived.Test.YtmaifiakjlbooaaDoorFm
namespace Go.Proofs.YtmaifiakjlbooaaDoor
set_option linter.unusedSimpArgs false
set_option linter.unusedVariables false
open Go.RowKit
attribute [local go_sem ↓] Go.wp_at_zero Go.wp_at_succ
theorem eq_oneM (w : World) : (Op.equalIn 9999 30 (mtv oneM) (mtv oneM)).run Tryd.prog w = .ok true w := by kernel_rfl
attribute [local go_sem] eq_oneM
theorem rot_10 (w : World) : Calls Tryd.prog 17 #[.int .i64 1, .int .i64 0] w fun e w' => e = .returned (mtb (some oneM)) ∧ Below w.heap.size w w' := by
  have := rot_any 1 0 w
  rwa [rot_one] at this
theorem fibMat_m (A : Option Addr) (len cap : Nat) (xs : List Sec) (M : Mt) (fl : Bool) (w : World) (h : Secs A len cap xs w) (hO : GO w) (hZ : GZ w) (hT : GT w) (hS : GS w) (e : mtb (fibMatI xs) = .tuple #[mtv M, .bool fl]) :
    Calls Tryd.prog 16 #[.slice A len cap] w fun e w' => e = .returned (.tuple #[mtv M, .bool fl]) ∧ Below w.heap.size w w' := by rw [← e]; exact fibMat_any A len cap xs w h hO hZ hT hS
set_option maxRecDepth 100000 in
set_option maxHeartbeats 4000000 in
theorem fnBeat_walk (A : Option Addr) (len cap : Nat) (w : World) (hby : Bytes A len cap w) (hGO : GO w) (hGZ : GZ w) (hGT : GT w) (hGS : GS w) :
    Calls Tryd.prog 3 #[.slice A len cap] w fun e w' => e = .returned (.bool true) ∧ Below w.heap.size w w' := by
  by_cases hl : len ≤ 1048576
  · have hd : decide ((1048576 : Int) < (len : Int)) = false := by simp; omega
    go_enter Tryd.func3, Tryd.ntmps3
    go_wp2_with (go_at_call 13; (with_reducible refine (dbeat_any A len cap _ hby).mono ?_); rintro e w1 ⟨s, rfl, hb⟩; refine Hid.out ?_)
    refine Lib.hid ?_
    have hz1 := hb.size
    have hB1 : Below w.heap.size w (w1.alloc (.cells #[.int .i64 s.p, .int .i64 s.q, .int .i64 s.ph, .int .i64 s.t] 24)) := hb.alloc hz1 _
    obtain ⟨bs, hbs⟩ : ∃ bs, bs = w1.heap.size := ⟨_, rfl⟩
    have hs0 : SecAt (w1.alloc (.cells #[.int .i64 s.p, .int .i64 s.q, .int .i64 s.ph, .int .i64 s.t] 24)) bs 0 s := by
      rw [hbs]
      exact ⟨World.cell?_alloc_at _ _ _ _ rfl, World.cell?_alloc_at _ _ _ _ rfl, World.cell?_alloc_at _ _ _ _ rfl, World.cell?_alloc_at _ _ _ _ rfl⟩
    have hsl : bs < (w1.alloc (.cells #[.int .i64 s.p, .int .i64 s.q, .int .i64 s.ph, .int .i64 s.t] 24)).heap.size := by rw [hbs]; simp
    cases hok : secOk s
    · go_wp2_with (go_at_call 14; (with_reducible refine (fibBeat_f s _ hok).mono ?_); rintro e w2 ⟨rfl, hb2⟩; refine Hid.out ?_)
      refine Lib.hid ?_
      obtain ⟨s0, s1, s2, s3⟩ := hs0.below hb2 hsl
      rw [hbs] at s0 s1 s2 s3
      have hB2 : Below w.heap.size w w2 := bstep hB1 hb2 (by simp; omega)
      clear hb2 hbs hs0 hsl
      simp only [Nat.zero_add] at s0 s1 s2 s3
      go_wp2_with (go_at_call 15; (with_reducible refine (sfibBeat_f s _ hok).mono ?_); rintro e w3 ⟨rfl, hb3⟩; have hB3 : Below w.heap.size w w3 := bstep hB2 hb3 hB2.size; clear hb3)
      go_ret
      exact ⟨rfl, by (repeat' (first | (with_reducible exact Below.refl _ _) | (with_reducible assumption) | (with_reducible refine Below.setCell ?_ (by first | omega | (simp; done) | (simp; omega)) _) | (with_reducible refine Below.alloc ?_ (by first | omega | (simp; done) | (simp; omega)) _) | (with_reducible refine below_drewN ?_ _) | (with_reducible refine Below.drew ?_)))⟩
    · obtain ⟨d1, d2⟩ := secOk_parts hok
      have hp := d2
      rw [inB_iff] at hp
      obtain ⟨p0, p1⟩ := hp
      obtain ⟨M, hM⟩ : ∃ M, M = (fibMatI [⟨s.p, s.q, s.ph, beatI s.ph⟩]).getD ⟨⟨0, 0, 0⟩, ⟨0, 0, 0⟩, ⟨0, 0, 0⟩, ⟨0, 0, 0⟩⟩ := ⟨_, rfl⟩
      obtain ⟨fl, hfl⟩ : ∃ fl, fl = (fibMatI [⟨s.p, s.q, s.ph, beatI s.ph⟩]).isSome := ⟨_, rfl⟩
      have HC := Lib.hid (show mtb (fibMatI [⟨s.p, s.q, s.ph, beatI s.ph⟩]) = .tuple #[mtv M, .bool fl] by rw [hM, hfl])
      have HONE := Lib.hid (show fl = true → M = oneM by
        intro hft
        cases hx : fibMatI [⟨s.p, s.q, s.ph, beatI s.ph⟩] with
        | none => rw [hfl, hx] at hft; cases hft
        | some m => rw [hM, hx]; exact beat_one d1 d2 hx)
      have HBT := Lib.hid (show beatI s.ph = 1 ∨ beatI s.ph = 2 ∨ beatI s.ph = 4 by unfold beatI; split <;> (try split) <;> simp)
      clear hM hfl d1 d2
      go_wp2_with (go_at_call 14; (with_reducible refine (fibBeat_t s _ hok).mono ?_); rintro e w2 ⟨rfl, hb2⟩; refine Hid.out ?_)
      refine Lib.hid ?_
      have hs2 := hs0.below hb2 hsl
      have hsl2 : bs < w2.heap.size := Nat.lt_of_lt_of_le hsl hb2.size
      have hB2 : Below w.heap.size w w2 := bstep hB1 hb2 (by simp; omega)
      have HBS := Lib.hid hbs
      rw [← hbs]
      have hs2' := hs2
      obtain ⟨s0, s1, s2, s3⟩ := hs2'
      simp only [Nat.zero_add] at s0 s1 s2 s3
      clear hb2 hs0 hsl hbs
      go_wp2_with (go_at_call 15; (with_reducible refine (sfibBeat_t s _ hok).mono ?_); rintro e w3 ⟨rfl, hb3⟩; refine Hid.out ?_)
      refine Lib.hid ?_
      obtain ⟨s0, s1, s2, s3⟩ := hs2.below hb3 hsl2
      simp only [Nat.zero_add] at s0 s1 s2 s3
      have hB3 : Below w.heap.size w w3 := bstep hB2 hb3 hB2.size
      have hz3 := hB3.size
      have hsl3 : bs < w3.heap.size := Nat.lt_of_lt_of_le hsl2 hb3.size
      have hS4 := Secs.one w3 ⟨s.p, s.q, s.ph, beatI s.ph⟩
      have hB4 : Below w.heap.size w (w3.alloc (.cells #[.int .i64 s.p, .int .i64 s.q, .int .i64 s.ph, .int .i64 (beatI s.ph)] 24)) := hB3.alloc hz3 _
      clear hb3 hs2
      go_wp2_with (go_at_call 16; (with_reducible refine (fibMat_m (some ⟨w3.heap.size, 0, none⟩) 1 1 [⟨s.p, s.q, s.ph, beatI s.ph⟩] M fl _ hS4 (hGO.below hB4) (hGZ.below hB4) (hGT.below hB4) (hGS.below hB4) HC.out).mono ?_); rintro e w5 ⟨rfl, hb5⟩; refine Hid.out ?_)
      refine Lib.hid ?_
      have hB5 : Below w.heap.size w w5 := bstep hB4 hb5 (by simp; omega)
      have hz5 := hB5.size
      have hM5 := MtAt.new w5 M 32
      have hB6 : Below w.heap.size w (w5.alloc (.cells #[.int .i64 M.a.re, .int .i64 M.a.im, .int .i64 M.a.den, .int .i64 M.b.re, .int .i64 M.b.im, .int .i64 M.b.den, .int .i64 M.c.re, .int .i64 M.c.im, .int .i64 M.c.den, .int .i64 M.d.re, .int .i64 M.d.im, .int .i64 M.d.den] 32)) := hB5.alloc hz5 _
      clear hb5 hS4 s0 s1 s2 s3
      go_wp2_with (go_at_call 17; (with_reducible refine (rot_10 _).mono ?_); rintro e w7 ⟨rfl, hb7⟩; refine Hid.out ?_)
      refine Lib.hid ?_
      obtain ⟨m0, m1, m2, m3, m4, m5, m6, m7, m8, m9, m10, m11⟩ := hM5.below hb7 (by simp)
      have hB7 : Below w.heap.size w w7 := bstep hB6 hb7 (by simp; omega)
      have hz7 := hB7.size
      have hz57 : w5.heap.size < w7.heap.size := by have := hb7.size; simp at this; omega
      clear hb7 hM5
      rcases HBT.out with hbt | hbt | hbt
      all_goals
        cases hfl : fl
        · go_wp2
          go_ret
          exact ⟨rfl, by (repeat' (first | (with_reducible exact Below.refl _ _) | (with_reducible assumption) | (with_reducible refine Below.setCell ?_ (by first | omega | (simp; done) | (simp; omega)) _) | (with_reducible refine Below.alloc ?_ (by first | omega | (simp; done) | (simp; omega)) _) | (with_reducible refine below_drewN ?_ _) | (with_reducible refine Below.drew ?_)))⟩
        · obtain rfl := HONE.out hfl
          go_wp2
          go_ret
          exact ⟨rfl, by (repeat' (first | (with_reducible exact Below.refl _ _) | (with_reducible assumption) | (with_reducible refine Below.setCell ?_ (by first | omega | (simp; done) | (simp; omega)) _) | (with_reducible refine Below.alloc ?_ (by first | omega | (simp; done) | (simp; omega)) _) | (with_reducible refine below_drewN ?_ _) | (with_reducible refine Below.drew ?_)))⟩
  · have hd : decide ((1048576 : Int) < (len : Int)) = true := by simp; omega
    go_enter Tryd.func3, Tryd.ntmps3
    go_wp2
    go_ret
    exact ⟨rfl, by (repeat' (first | (with_reducible exact Below.refl _ _) | (with_reducible assumption) | (with_reducible refine Below.setCell ?_ (by first | omega | (simp; done) | (simp; omega)) _) | (with_reducible refine Below.alloc ?_ (by first | omega | (simp; done) | (simp; omega)) _) | (with_reducible refine below_drewN ?_ _) | (with_reducible refine Below.drew ?_)))⟩
end Go.Proofs.YtmaifiakjlbooaaDoor
