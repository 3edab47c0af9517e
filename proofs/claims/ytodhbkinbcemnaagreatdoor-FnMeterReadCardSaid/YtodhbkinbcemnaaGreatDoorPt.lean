/-
  Texts of this claim, joined: Ua; Ub. Nothing is claimed here; the other texts of this claim use it.
-/
import Derived.Test.YtodhbkinbcemnaaGreatDoorKe
import Derived.Test.YtodhbkinbcemnaaGreatDoorPj
import Derived.Test.YtodhbkinbcemnaaGreatDoorNa
namespace Go.Proofs.YtodhbkinbcemnaaGreatDoor
set_option linter.unusedSimpArgs false
set_option linter.unusedVariables false
section
open Go.RowKit
attribute [local go_sem ↓] Go.wp_at_zero Go.wp_at_succ
theorem sm_l (b mv : Fr) (mo : Bool) (w : World) (h1 : Hid (vN (mirrorI b) = mv)) (h2 : Hid ((mirrorI b).isSome = mo)) : Calls Tryz.prog 95 #[frv b] w fun e w' => e = .returned (.tuple #[frv mv, .bool mo]) ∧ Below w.heap.size w w' := by
  rw [← h1.out, ← h2.out]; exact smirror_any b w
theorem st_l (a b mv : Fr) (mo : Bool) (w : World) (h1 : Hid (vN (timesI a b) = mv)) (h2 : Hid ((timesI a b).isSome = mo)) : Calls Tryz.prog 71 #[frv a, frv b] w fun e w' => e = .returned (.tuple #[frv mv, .bool mo]) ∧ Below w.heap.size w w' := by
  rw [← h1.out, ← h2.out]; exact stimes_any a b w
theorem sk_l (re im den : Int) (mv : Fr) (mo : Bool) (w : World) (h1 : Hid (vN (makeI re im den) = mv)) (h2 : Hid ((makeI re im den).isSome = mo)) : Calls Tryz.prog 118 #[.int .i64 re, .int .i64 im, .int .i64 den] w fun e w' => e = .returned (.tuple #[frv mv, .bool mo]) ∧ Below w.heap.size w w' := by
  rw [← h1.out, ← h2.out]; exact smake_any re im den w
theorem ok_end {w2 : World} {bs r : Nat} {bad c v : Bool} (h : OkIs w2 bs bad) (hv : v = !c) (hr : bs ≠ r) (o : Obj) (x y z : Value) : OkIs (((((w2.setCell ⟨bs, 0, none⟩ (.bool v)).alloc o).setCell ⟨r, 0, none⟩ x).setCell ⟨r, 1, none⟩ y).setCell ⟨r, 2, none⟩ z) bs c := by
  subst hv
  exact (((((h.set c).alloc o).far (p := ⟨r, 0, none⟩) hr x).far (p := ⟨r, 1, none⟩) hr y).far (p := ⟨r, 2, none⟩) hr z)
theorem nn_of {o : Option Fr} {b : Bool} (h : o.isSome = b) : o.isNone = !b := by cases o <;> simp at h <;> subst h <;> rfl
set_option maxRecDepth 100000 in
set_option maxHeartbeats 2000000 in
theorem y_pair0 (a b : Fr) (bs : Nat) (bad : Bool) (w : World) (hs : OkIs w bs bad) :
    Calls Tryz.prog 120 #[.pointer (some ⟨bs, 0, none⟩), frv a, frv b] w fun e w' => e = .returned (frv (pairV a b)) ∧ OkIs w' bs (bad || pairN a b) ∧ BelX w.heap.size bs w w' := by
  have hlt := hs.lt
  have hne : w.heap.size ≠ bs ∧ w.heap.size + 1 ≠ bs ∧ w.heap.size + 1 + 1 ≠ bs := ⟨by omega, by omega, by omega⟩
  obtain ⟨mv, hmv⟩ : ∃ x, vN (mirrorI b) = x := ⟨_, rfl⟩
  obtain ⟨mo, hmo⟩ : ∃ x, (mirrorI b).isSome = x := ⟨_, rfl⟩
  obtain ⟨tv, htv⟩ : ∃ x, vN (timesI a mv) = x := ⟨_, rfl⟩
  obtain ⟨tk, htk⟩ : ∃ x, (timesI a mv).isSome = x := ⟨_, rfl⟩
  have hV : pairV a b = tv := by unfold pairV; rw [hmv, htv]
  have hN : pairN a b = (!mo || !tk) := by unfold pairN; rw [nn_of hmo, hmv, nn_of htk]
  rw [hV, hN]
  have H1 := Lib.hid hmv
  have H2 := Lib.hid hmo
  have H3 := Lib.hid htv
  have H4 := Lib.hid htk
  clear hmv hmo htv htk hV hN
  have hs0 : OkIs (((w.alloc (.cells #[.int .i64 a.re, .int .i64 a.im, .int .i64 a.den] 25)).alloc (.cells #[.int .i64 b.re, .int .i64 b.im, .int .i64 b.den] 25)).alloc (.cells #[.int .i64 0, .int .i64 0, .int .i64 0] 25)) bs bad := ((hs.alloc _).alloc _).alloc _
  go_enter Tryz.func120, Tryz.ntmps120
  go_upto_region 3 with (first | (go_at_call 95; (with_reducible refine (sm_l b mv mo _ H1 H2).mono ?_); rintro e w1 ⟨rfl, hb⟩; have hs1 := hs0.below hb (by simp; omega); obtain ⟨hc, hf⟩ := bf hb (w.heap.size + 1 + 1 + 1) (by simp); have hz := hb.size; simp only [World.size_alloc] at hz; have hB : Below w.heap.size w w1 := bstep (by exact below_) hb (by simp; omega); clear hb) | (go_at_call 71; (with_reducible refine (st_l a mv tv tk _ H3 H4).mono ?_); rintro e w2 ⟨rfl, hb⟩; have hs2 : OkIs w2 bs bad := (hs1.alloc _).below hb (by simp; omega); obtain ⟨hc2, hf2⟩ := bf hb (w.heap.size + 1 + 1 + 1) (by simp; omega); have hz2 := hb.size; simp only [World.size_alloc, World.size_setCell] at hz2; have hB2 : Below w.heap.size w w2 := bstep (by exact below_) hb (by simp; omega); clear hb))
  have hs3 := hs2.alloc (.cells #[.int .i64 tv.re, .int .i64 tv.im, .int .i64 tv.den] 25)
  have hcs := hs3.cell
  have hfs := hs3.frozen
  have hl2 := hs2.lt
  have hne2 : ¬ w2.heap.size = bs := by omega
  have hne3 : ¬ bs = w2.heap.size := by omega
  rcases bad with _ | _ <;> rcases mo with _ | _ <;> rcases tk with _ | _ <;> simp only [Bool.not_true, Bool.not_false] at hcs
  all_goals (
    go_wp2
    refine bodyPost_ret (v := frv tv) (by simp [results, Tryz.results120, go_sem, *]) rfl ⟨rfl, ?_, by exact belx_⟩
    refine ok_end hs2 ?_ (by omega) _ _ _ _
    rfl)
theorem y_pair (a b : Fr) (bs : Nat) (w : World) (hs : OkEx w bs) :
    Calls Tryz.prog 120 #[.pointer (some ⟨bs, 0, none⟩), frv a, frv b] w fun e w' => e = .returned (frv (pairV a b)) ∧ (∀ c, OkIs w bs c → OkIs w' bs (c || pairN a b)) ∧ BelX w.heap.size bs w w' := by
  obtain ⟨b0, hb⟩ := hs
  exact (y_pair0 a b bs b0 w hb).mono fun e w' ⟨h1, h2, h3⟩ => ⟨h1, fun c hc => by rw [← hb.uniq hc]; exact h2, h3⟩
end
section
open Go.RowKit
attribute [local go_sem ↓] Go.wp_at_zero Go.wp_at_succ
set_option maxRecDepth 100000 in
set_option maxHeartbeats 2000000 in
theorem y_part1 (a : Fr) (im : Bool) (ov : Int) (bs : Nat) (bad : Bool) (w : World) (hs : OkIs w bs bad) (ho : ov = 1 ∨ ov = 2) (hd : 2 ≤ a.den ∧ a.den ≤ 2000000000) :
    Calls Tryz.prog 121 #[.pointer (some ⟨bs, 0, none⟩), frv a, .int .i64 ov, .bool im] w fun e w' => e = .returned (frv (vN (partS im a ov))) ∧ OkIs w' bs (bad || (partS im a ov).isNone) ∧ BelX w.heap.size bs w w' := by
  have hlt := hs.lt
  have hne : w.heap.size ≠ bs ∧ w.heap.size + 1 ≠ bs ∧ w.heap.size + 1 + 1 ≠ bs := ⟨by omega, by omega, by omega⟩
  obtain ⟨q, hq⟩ : ∃ q, (if im then a.im else a.re) = q := ⟨_, rfl⟩
  obtain ⟨dd, hdd⟩ : ∃ x, a.den * ov = x := ⟨_, rfl⟩
  have hw : wrap64 (a.den * ov) = dd := by rw [← hdd]; unfold wrap64; rcases ho with rfl | rfl <;> omega
  obtain ⟨tv, htv⟩ : ∃ x, vN (makeI q 0 dd) = x := ⟨_, rfl⟩
  obtain ⟨tk, htk⟩ : ∃ x, (makeI q 0 dd).isSome = x := ⟨_, rfl⟩
  have hP : partS im a ov = makeI q 0 dd := by unfold partS; rw [hq, show max 1 a.den = a.den by omega, hdd]
  rw [hP, htv, nn_of htk]
  have H3 := Lib.hid htv
  have H4 := Lib.hid htk
  clear htv htk hP hdd
  have hs0 : ∀ x y : Obj, OkIs ((w.alloc x).alloc y) bs bad := fun x y => (hs.alloc x).alloc y
  have m1 : ¬ a.den ≤ 1 := by omega
  have m2 : (1 : Int) ≤ a.den := by omega
  have m3 : (1 : Int) < a.den := by omega
  have m4 : max 1 a.den = a.den := by omega
  cases im <;> simp only [Bool.false_eq_true, if_false, if_true] at hq <;> subst hq
  all_goals (
    go_enter Tryz.func121, Tryz.ntmps121
    go_upto_region 5 with (first | (go_at_call 118; (with_reducible refine (sk_l _ 0 dd tv tk _ H3 H4).mono ?_); rintro e w2 ⟨rfl, hb⟩; have hs2 : OkIs w2 bs bad := (hs0 _ _).below hb (by simp; omega); obtain ⟨hc2, hf2⟩ := bf hb (w.heap.size + 1 + 1) (by simp); have hz2 := hb.size; simp only [World.size_alloc] at hz2; have hB2 : Below w.heap.size w w2 := bstep (by exact below_) hb (by simp; omega); clear hb))
    have hs3 := hs2.alloc (.cells #[.int .i64 tv.re, .int .i64 tv.im, .int .i64 tv.den] 25)
    have hcs := hs3.cell
    have hfs := hs3.frozen
    have hl2 := hs2.lt
    have hne2 : ¬ w2.heap.size = bs := by omega
    have hne3 : ¬ bs = w2.heap.size := by omega
    rcases bad with _ | _ <;> rcases tk with _ | _ <;> simp only [Bool.not_true, Bool.not_false] at hcs
    all_goals (
      go_wp2
      refine bodyPost_ret (v := frv tv) (by simp [results, Tryz.results121, go_sem, *]) rfl ⟨rfl, ?_, by exact belx_⟩
      refine ok_end hs2 ?_ (by omega) _ _ _ _
      rfl))
set_option maxRecDepth 100000 in
set_option maxHeartbeats 2000000 in
theorem y_part2 (a : Fr) (im : Bool) (ov : Int) (bs : Nat) (bad : Bool) (w : World) (hs : OkIs w bs bad) (ho : ov = 1 ∨ ov = 2) (hd : a.den = 1) :
    Calls Tryz.prog 121 #[.pointer (some ⟨bs, 0, none⟩), frv a, .int .i64 ov, .bool im] w fun e w' => e = .returned (frv (vN (partS im a ov))) ∧ OkIs w' bs (bad || (partS im a ov).isNone) ∧ BelX w.heap.size bs w w' := by
  have hlt := hs.lt
  have hne : w.heap.size ≠ bs ∧ w.heap.size + 1 ≠ bs ∧ w.heap.size + 1 + 1 ≠ bs := ⟨by omega, by omega, by omega⟩
  obtain ⟨q, hq⟩ : ∃ q, (if im then a.im else a.re) = q := ⟨_, rfl⟩
  obtain ⟨dd, hdd⟩ : ∃ x, ov = x := ⟨_, rfl⟩
  have hw : wrap64 ov = ov := by unfold wrap64; rcases ho with rfl | rfl <;> omega
  obtain ⟨tv, htv⟩ : ∃ x, vN (makeI q 0 dd) = x := ⟨_, rfl⟩
  obtain ⟨tk, htk⟩ : ∃ x, (makeI q 0 dd).isSome = x := ⟨_, rfl⟩
  have hP : partS im a ov = makeI q 0 dd := by unfold partS; rw [hq, show max 1 a.den = 1 by omega, Int.one_mul, hdd]
  rw [hP, htv, nn_of htk]
  have H3 := Lib.hid htv
  have H4 := Lib.hid htk
  clear htv htk hP
  subst hdd
  have hs0 : ∀ x y : Obj, OkIs ((w.alloc x).alloc y) bs bad := fun x y => (hs.alloc x).alloc y
  cases im <;> simp only [Bool.false_eq_true, if_false, if_true] at hq <;> subst hq
  all_goals (
    go_enter Tryz.func121, Tryz.ntmps121
    go_upto_region 5 with (first | (go_at_call 118; (with_reducible refine (sk_l _ 0 ov tv tk _ H3 H4).mono ?_); rintro e w2 ⟨rfl, hb⟩; have hs2 : OkIs w2 bs bad := (hs0 _ _).below hb (by simp; omega); obtain ⟨hc2, hf2⟩ := bf hb (w.heap.size + 1 + 1) (by simp); have hz2 := hb.size; simp only [World.size_alloc] at hz2; have hB2 : Below w.heap.size w w2 := bstep (by exact below_) hb (by simp; omega); clear hb))
    have hs3 := hs2.alloc (.cells #[.int .i64 tv.re, .int .i64 tv.im, .int .i64 tv.den] 25)
    have hcs := hs3.cell
    have hfs := hs3.frozen
    have hl2 := hs2.lt
    have hne2 : ¬ w2.heap.size = bs := by omega
    have hne3 : ¬ bs = w2.heap.size := by omega
    rcases bad with _ | _ <;> rcases tk with _ | _ <;> simp only [Bool.not_true, Bool.not_false] at hcs
    all_goals (
      go_wp2
      refine bodyPost_ret (v := frv tv) (by simp [results, Tryz.results121, go_sem, *]) rfl ⟨rfl, ?_, by exact belx_⟩
      refine ok_end hs2 ?_ (by omega) _ _ _ _
      rfl))
set_option maxRecDepth 100000 in
set_option maxHeartbeats 2000000 in
theorem y_part3 (a : Fr) (im : Bool) (ov : Int) (bs : Nat) (bad : Bool) (w : World) (hs : OkIs w bs bad) (ho : ov = 1 ∨ ov = 2) (hd : a.den = 0) :
    Calls Tryz.prog 121 #[.pointer (some ⟨bs, 0, none⟩), frv a, .int .i64 ov, .bool im] w fun e w' => e = .returned (frv (vN (partS im a ov))) ∧ OkIs w' bs (bad || (partS im a ov).isNone) ∧ BelX w.heap.size bs w w' := by
  have hlt := hs.lt
  have hne : w.heap.size ≠ bs ∧ w.heap.size + 1 ≠ bs ∧ w.heap.size + 1 + 1 ≠ bs := ⟨by omega, by omega, by omega⟩
  obtain ⟨q, hq⟩ : ∃ q, (if im then a.im else a.re) = q := ⟨_, rfl⟩
  obtain ⟨dd, hdd⟩ : ∃ x, ov = x := ⟨_, rfl⟩
  have hw : wrap64 ov = ov := by unfold wrap64; rcases ho with rfl | rfl <;> omega
  obtain ⟨tv, htv⟩ : ∃ x, vN (makeI q 0 dd) = x := ⟨_, rfl⟩
  obtain ⟨tk, htk⟩ : ∃ x, (makeI q 0 dd).isSome = x := ⟨_, rfl⟩
  have hP : partS im a ov = makeI q 0 dd := by unfold partS; rw [hq, show max 1 a.den = 1 by omega, Int.one_mul, hdd]
  rw [hP, htv, nn_of htk]
  have H3 := Lib.hid htv
  have H4 := Lib.hid htk
  clear htv htk hP
  subst hdd
  have hs0 : ∀ x y : Obj, OkIs ((w.alloc x).alloc y) bs bad := fun x y => (hs.alloc x).alloc y
  cases im <;> simp only [Bool.false_eq_true, if_false, if_true] at hq <;> subst hq
  all_goals (
    go_enter Tryz.func121, Tryz.ntmps121
    go_upto_region 5 with (first | (go_at_call 118; (with_reducible refine (sk_l _ 0 ov tv tk _ H3 H4).mono ?_); rintro e w2 ⟨rfl, hb⟩; have hs2 : OkIs w2 bs bad := (hs0 _ _).below hb (by simp; omega); obtain ⟨hc2, hf2⟩ := bf hb (w.heap.size + 1 + 1) (by simp); have hz2 := hb.size; simp only [World.size_alloc] at hz2; have hB2 : Below w.heap.size w w2 := bstep (by exact below_) hb (by simp; omega); clear hb))
    have hs3 := hs2.alloc (.cells #[.int .i64 tv.re, .int .i64 tv.im, .int .i64 tv.den] 25)
    have hcs := hs3.cell
    have hfs := hs3.frozen
    have hl2 := hs2.lt
    have hne2 : ¬ w2.heap.size = bs := by omega
    have hne3 : ¬ bs = w2.heap.size := by omega
    rcases bad with _ | _ <;> rcases tk with _ | _ <;> simp only [Bool.not_true, Bool.not_false] at hcs
    all_goals (
      go_wp2
      refine bodyPost_ret (v := frv tv) (by simp [results, Tryz.results121, go_sem, *]) rfl ⟨rfl, ?_, by exact belx_⟩
      refine ok_end hs2 ?_ (by omega) _ _ _ _
      rfl))
theorem y_part (a : Fr) (im : Bool) (ov : Int) (bs : Nat) (w : World) (hs : OkEx w bs) (ho : ov = 1 ∨ ov = 2) (hd : 0 ≤ a.den ∧ a.den ≤ 2000000000) :
    Calls Tryz.prog 121 #[.pointer (some ⟨bs, 0, none⟩), frv a, .int .i64 ov, .bool im] w fun e w' => e = .returned (frv (vN (partS im a ov))) ∧ (∀ c, OkIs w bs c → OkIs w' bs (c || (partS im a ov).isNone)) ∧ BelX w.heap.size bs w w' := by
  obtain ⟨b0, hb⟩ := hs
  have h : a.den = 0 ∨ a.den = 1 ∨ (2 ≤ a.den ∧ a.den ≤ 2000000000) := by omega
  rcases h with h | h | h
  · exact (y_part3 a im ov bs b0 w hb ho h).mono fun e w' ⟨h1, h2, h3⟩ => ⟨h1, fun c hc => by rw [← hb.uniq hc]; exact h2, h3⟩
  · exact (y_part2 a im ov bs b0 w hb ho h).mono fun e w' ⟨h1, h2, h3⟩ => ⟨h1, fun c hc => by rw [← hb.uniq hc]; exact h2, h3⟩
  · exact (y_part1 a im ov bs b0 w hb ho h).mono fun e w' ⟨h1, h2, h3⟩ => ⟨h1, fun c hc => by rw [← hb.uniq hc]; exact h2, h3⟩
end
end Go.Proofs.YtodhbkinbcemnaaGreatDoor
