/-
  The walks of the functions that make the rows of four stations, the program's and the reference's.
-/
import Derived.Test.YtalcjmefmffcnaaDoorUm
import Derived.Test.YtalcjmefmffcnaaDoorKn
namespace Go.Proofs.YtalcjmefmffcnaaDoor
set_option linter.unusedSimpArgs false
set_option linter.unusedVariables false
open Go.RowKit
attribute [local go_sem ↓] Go.wp_at_zero Go.wp_at_succ
theorem allO_succ {xs : List Sta} {k : Nat} {s : Sta} (h : xs[k]? = some s) : (xs.take (k + 1)).all rowOk = ((xs.take k).all rowOk && rowOk s) := by
  rw [List.take_add_one, h]; simp
theorem allO_fails {xs : List Sta} {k : Nat} {s : Sta} (h : xs[k]? = some s) (hs : rowOk s = false) : xs.all rowOk = false := by
  have hm : s ∈ xs := List.mem_of_getElem? h
  rw [Bool.eq_false_iff]
  intro hc
  rw [List.all_eq_true.1 hc s hm] at hs
  cases hs
theorem rowsG_next {xs : List Sta} {k : Nat} {s : Sta} (h : xs[k]? = some s) : (xs.take (k + 1)).map rowG = (xs.take k).map rowG ++ [rowG s] := by
  rw [List.take_add_one, h, List.map_append]; rfl
set_option maxRecDepth 100000 in
set_option maxHeartbeats 16000000 in
theorem rowsOf_any (A : Option Addr) (len cap : Nat) (xs : List Sta) (w : World) (hS : Sas A len cap xs w) (hO : GO w) (hZ : GZ w) (hT : GT w) :
    Calls Tryd.prog 69 #[.slice A len cap] w fun e w' => (∃ v, e = .returned (.tuple #[v, .bool (rowsI xs).isSome]) ∧ ∀ rows, rowsI xs = some rows → OwRs w.heap.size v rows w') ∧ Below w.heap.size w w' := by
  have hl := hS.2.1
  have hm := hS.2.2.1
  have HL := Lib.hid hS.1
  by_cases h4 : len = 4
  case neg =>
    have hn4 : ((len : Int) == 4) = false := by simp; omega
    have hn4' : ((len : Int) != 4) = true := by simp; omega
    have he : rowsI xs = none := by
      unfold rowsI
      rw [if_neg]
      have := HL.out
      simp only [Bool.and_eq_true, decide_eq_true_eq]
      omega
    have HE := Lib.hid he
    clear he
    go_enter Tryd.func69, Tryd.ntmps69
    go_wp2
    go_ret2
    exact ⟨⟨_, by rw [HE.out]; rfl, fun rows h => by rw [HE.out] at h; cases h⟩, by exact below_⟩
  subst h4
  have hO0 := OwRs.made w w.heap.size (Nat.le_refl _)
  have hB0 : Below w.heap.size w (w.alloc (.cells #[] 39)) := by exact below_
  go_enter Tryd.func69, Tryd.ntmps69
  go_wp2
  go_loopw [4, 15] (fun v iv wr => ∃ k : Nat, k ≤ 4 ∧ iv = .int .i64 k ∧ OwRs w.heap.size v ((xs.take k).map rowG) wr ∧ Hid ((xs.take k).all rowOk = true) ∧ Below w.heap.size w wr) (fun _ iv _ => 4 - (intOf iv).toNat)
  case atStart => exact ⟨0, Nat.zero_le _, rfl, (by simpa using hO0), rfl, hB0⟩
  case round =>
    clear hO0 hB0
    obtain ⟨k, hk, rfl, hRs, hall, hB⟩ := hrel
    have hz := hB.size
    by_cases hkl : k < 4
    · obtain ⟨b1, o1, s, rfl, hlt1, hs1, hc1⟩ := hS.at hB hkl
      obtain ⟨c0, c1⟩ := hc1
      have hki : (k : Int) < 4 := by omega
      obtain ⟨q, ok, hq, hok, hrow⟩ := row_parts s
      have HC := Lib.hid hq
      have HOK := Lib.hid hok
      have HROW := Lib.hid hrow
      have HS1 := Lib.hid hs1
      have hBc : Below w.heap.size w (wr.alloc (.cells #[.int .i64 s.p, .int .i64 s.q] 29)) := by exact below_
      have hzc : w.heap.size ≤ (wr.alloc (.cells #[.int .i64 s.p, .int .i64 s.q] 29)).heap.size := hBc.size
      have hRc : OwRs w.heap.size _ _ (wr.alloc (.cells #[.int .i64 s.p, .int .i64 s.q] 29)) := hRs.alloc _
      clear hq hok hrow hs1
      go_upto_region 8 with (go_at_call 16; (with_reducible refine (row_m s q ok _ (hO.below hBc) (hZ.below hBc) (hT.below hBc) HC).mono ?_); rintro e w1 ⟨rfl, hb⟩)
      obtain ⟨W1, hW1, hR1, hB1, hx1, hzq, hbq⟩ : ∃ W, W = w1.alloc (.cells #[.int .i64 q.a.re, .int .i64 q.a.im, .int .i64 q.a.den, .int .i64 q.b.re, .int .i64 q.b.im, .int .i64 q.b.den, .int .i64 q.c.re, .int .i64 q.c.im, .int .i64 q.c.den, .int .i64 q.d.re, .int .i64 q.d.im, .int .i64 q.d.den] 26) ∧ OwRs w.heap.size _ _ W ∧ Below w.heap.size w W ∧ ArrW W w1.heap.size (row4 q) ∧ w.heap.size ≤ w1.heap.size ∧ w1.heap.size < W.heap.size := by
        have h9 : Below w.heap.size w w1 := bstep hBc hb hzc
        exact ⟨_, rfl, (hRc.below (B := 0) hb).alloc _, h9.alloc h9.size _, ArrW.newM w1 q 26, h9.size, by simp⟩
      rw [← hW1]
      obtain ⟨bq, hbq2⟩ : ∃ b, b = w1.heap.size := ⟨_, rfl⟩
      rw [← hbq2] at hx1 hzq hbq ⊢
      clear hW1 hbq2 hb hRs hB hRc hBc hzc c0 c1
      cases hok : ok
      · have hb2 : rowOk s = false := by rw [← HOK.out, hok]
        have he : rowsI xs = none := by
          unfold rowsI
          rw [allO_fails HS1.out hb2]
          simp
        have HE := Lib.hid he
        clear he hb2
        go_wp2
        go_ret2
        exact ⟨⟨_, by rw [HE.out]; rfl, fun rows h => by rw [HE.out] at h; cases h⟩, by exact below_⟩
      · have hb2 : rowOk s = true := by rw [← HOK.out, hok]
        have hg : rowG s = row4 q := HROW.out hok
        have hnx := rowsG_next HS1.out
        rw [hg] at hnx
        have HNX := Lib.hid hnx
        have HB2 := Lib.hid hb2
        have hml : ((xs.take k).map rowG).length + 1 < 4000000 := by rw [List.length_map, List.length_take]; omega
        have hbz : Below W1.heap.size W1 (W1.alloc (.cells #[] 25)) := (Below.refl _ _).alloc (Nat.le_refl _) _
        have hAd : ∃ bb off : Nat, some (⟨bq, 0, none⟩ : Addr) = some ⟨bb, off, none⟩ ∧ ∀ i z, (row4 q)[i]? = some z → FAt (W1.alloc (.cells #[] 25)) bb (off + i * 3) z :=
          ⟨bq, 0, rfl, fun i z hi => by rw [Nat.zero_add]; exact (hx1.alloc _).c i z hi⟩
        clear hnx hb2 hg
        go_wp2_with (at_builtin; refine wpList_appF rfl (.tmp 27) (.tmp 28) rfl W1.heap.size _ [] _ (by rfl) (OwF.made W1 W1.heap.size (Nat.le_refl _)) (some ⟨bq, 0, none⟩) 4 4 (row4 q) (by rfl) rfl hAd (by simp) hbz.size ?_; intro v1 w2 hP1 hg1 hat1; refine Hid.out ?_)
        refine Lib.hid ?_
        have hP2 : OwF W1.heap.size v1 (row4 q) w2 := hP1
        have hb2 : Below W1.heap.size W1 w2 := Below.grown hbz hg1 hbz.size (fun kk e => by simp [Value.ownBlock] at e; omega)
        obtain ⟨A9, c9, e9, -⟩ := hP2.frs
        rw [show (row4 q).length = 4 from rfl] at e9
        subst e9
        have hB2 : Below w.heap.size w (w2.alloc (.cells #[.slice A9 4 c9] 39)) := by
          have h9 : Below w.heap.size w w2 := bstep hB1 hb2 hB1.size
          exact h9.alloc h9.size _
        have hzW := hB1.size
        clear hP1 hg1 hat1 hAd hbz
        go_wp2_with (at_builtin; refine wpList_appR rfl (.tmp 26) (.tmp 30) rfl w.heap.size _ ((xs.take k).map rowG) _ (by rfl) ((OwRs.below (B := 0) hR1 hb2).alloc _) w2.heap.size 1 (by rfl) W1.heap.size (.slice A9 4 c9) (row4 q) (hP2.alloc _) (fun kk e => (hR1.lt kk e).2) hzW (World.cell?_alloc_at _ _ _ _ rfl) hml hB2.size ?_; intro v3 w3 hO3 hg3; refine Hid.out ?_)
        refine Lib.hid ?_
        have hB3 : Below w.heap.size w w3 := Below.grown hB2 hg3 hB2.size (fun kk e => by have := (hR1.lt kk e).1; omega)
        go_wp2
        go_roundw
        case rel => exact ⟨k + 1, by omega, by go_num, by rw [HNX.out]; exact hO3, by rw [Hid, allO_succ HS1.out, hall.out, HB2.out]; rfl, hB3⟩
        case measure => simp [intOf]; omega
    · obtain rfl : k = 4 := by omega
      have hreal : xs.all rowOk = true := by
        have := hall.out
        rwa [List.take_of_length_le (by have := HL.out; omega)] at this
      rw [List.take_of_length_le (by have := HL.out; omega)] at hRs
      have he : rowsI xs = some (xs.map rowG) := by
        unfold rowsI
        rw [if_pos]
        simp [hreal, HL.out]
      have HE := Lib.hid he
      clear he hreal hall
      go_wp2
      go_ret2
      exact ⟨⟨_, by rw [HE.out]; rfl, fun rows h => by rw [HE.out] at h; obtain rfl := Option.some.inj h; exact hRs⟩, hB⟩
set_option maxRecDepth 100000 in
set_option maxHeartbeats 16000000 in
theorem srows_any (A : Option Addr) (len cap : Nat) (xs : List Sta) (w : World) (hS : Sas A len cap xs w) :
    Calls Tryd.prog 72 #[.slice A len cap] w fun e w' => (∃ v, e = .returned (.tuple #[v, .bool (rowsI xs).isSome]) ∧ ∀ rows, rowsI xs = some rows → OwRs w.heap.size v rows w') ∧ Below w.heap.size w w' := by
  have hl := hS.2.1
  have hm := hS.2.2.1
  have HL := Lib.hid hS.1
  by_cases h4 : len = 4
  case neg =>
    have hn4 : ((len : Int) == 4) = false := by simp; omega
    have hn4' : ((len : Int) != 4) = true := by simp; omega
    have he : rowsI xs = none := by
      unfold rowsI
      rw [if_neg]
      have := HL.out
      simp only [Bool.and_eq_true, decide_eq_true_eq]
      omega
    have HE := Lib.hid he
    clear he
    go_enter Tryd.func72, Tryd.ntmps72
    go_wp2
    go_ret2
    exact ⟨⟨_, by rw [HE.out]; rfl, fun rows h => by rw [HE.out] at h; cases h⟩, by exact below_⟩
  subst h4
  have hO0 := OwRs.made w w.heap.size (Nat.le_refl _)
  have hB0 : Below w.heap.size w (w.alloc (.cells #[] 39)) := by exact below_
  go_enter Tryd.func72, Tryd.ntmps72
  go_wp2
  go_loopw [4, 5] (fun v iv wr => ∃ k : Nat, k ≤ 4 ∧ iv = .int .i64 k ∧ OwRs w.heap.size v ((xs.take k).map rowG) wr ∧ Hid ((xs.take k).all rowOk = true) ∧ Below w.heap.size w wr) (fun _ iv _ => 4 - (intOf iv).toNat)
  case atStart => exact ⟨0, Nat.zero_le _, rfl, (by simpa using hO0), rfl, hB0⟩
  case round =>
    clear hO0 hB0
    obtain ⟨k, hk, rfl, hRs, hall, hB⟩ := hrel
    have hz := hB.size
    by_cases hkl : k < 4
    · obtain ⟨b1, o1, s, rfl, hlt1, hs1, hc1⟩ := hS.at hB hkl
      obtain ⟨c0, c1⟩ := hc1
      have hki : (k : Int) < 4 := by omega
      obtain ⟨q, ok, hq, hok, hrow⟩ := row_parts s
      have HC := Lib.hid hq
      have HOK := Lib.hid hok
      have HROW := Lib.hid hrow
      have HS1 := Lib.hid hs1
      have hBc : Below w.heap.size w wr := by exact below_
      have hzc : w.heap.size ≤ wr.heap.size := hBc.size
      have hRc : OwRs w.heap.size _ _ wr := hRs
      clear hq hok hrow hs1
      go_upto_region 8 with (go_at_call 14; (with_reducible refine (srow_m s q ok _ HC).mono ?_); rintro e w1 ⟨rfl, hb⟩)
      obtain ⟨W1, hW1, hR1, hB1, hx1, hzq, hbq⟩ : ∃ W, W = w1.alloc (.cells #[.int .i64 q.a.re, .int .i64 q.a.im, .int .i64 q.a.den, .int .i64 q.b.re, .int .i64 q.b.im, .int .i64 q.b.den, .int .i64 q.c.re, .int .i64 q.c.im, .int .i64 q.c.den, .int .i64 q.d.re, .int .i64 q.d.im, .int .i64 q.d.den] 26) ∧ OwRs w.heap.size _ _ W ∧ Below w.heap.size w W ∧ ArrW W w1.heap.size (row4 q) ∧ w.heap.size ≤ w1.heap.size ∧ w1.heap.size < W.heap.size := by
        have h9 : Below w.heap.size w w1 := bstep hBc hb hzc
        exact ⟨_, rfl, (hRc.below (B := 0) hb).alloc _, h9.alloc h9.size _, ArrW.newM w1 q 26, h9.size, by simp⟩
      rw [← hW1]
      obtain ⟨bq, hbq2⟩ : ∃ b, b = w1.heap.size := ⟨_, rfl⟩
      rw [← hbq2] at hx1 hzq hbq ⊢
      clear hW1 hbq2 hb hRs hB hRc hBc hzc c0 c1
      cases hok : ok
      · have hb2 : rowOk s = false := by rw [← HOK.out, hok]
        have he : rowsI xs = none := by
          unfold rowsI
          rw [allO_fails HS1.out hb2]
          simp
        have HE := Lib.hid he
        clear he hb2
        go_wp2
        go_ret2
        exact ⟨⟨_, by rw [HE.out]; rfl, fun rows h => by rw [HE.out] at h; cases h⟩, by exact below_⟩
      · have hb2 : rowOk s = true := by rw [← HOK.out, hok]
        have hg : rowG s = row4 q := HROW.out hok
        have hnx := rowsG_next HS1.out
        rw [hg] at hnx
        have HNX := Lib.hid hnx
        have HB2 := Lib.hid hb2
        have hml : ((xs.take k).map rowG).length + 1 < 4000000 := by rw [List.length_map, List.length_take]; omega
        have hbz : Below W1.heap.size W1 (W1.alloc (.cells #[] 25)) := (Below.refl _ _).alloc (Nat.le_refl _) _
        have hAd : ∃ bb off : Nat, some (⟨bq, 0, none⟩ : Addr) = some ⟨bb, off, none⟩ ∧ ∀ i z, (row4 q)[i]? = some z → FAt (W1.alloc (.cells #[] 25)) bb (off + i * 3) z :=
          ⟨bq, 0, rfl, fun i z hi => by rw [Nat.zero_add]; exact (hx1.alloc _).c i z hi⟩
        clear hnx hb2 hg
        go_wp2_with (at_builtin; refine wpList_appF rfl (.tmp 29) (.tmp 30) rfl W1.heap.size _ [] _ (by rfl) (OwF.made W1 W1.heap.size (Nat.le_refl _)) (some ⟨bq, 0, none⟩) 4 4 (row4 q) (by rfl) rfl hAd (by simp) hbz.size ?_; intro v1 w2 hP1 hg1 hat1; refine Hid.out ?_)
        refine Lib.hid ?_
        have hP2 : OwF W1.heap.size v1 (row4 q) w2 := hP1
        have hb2 : Below W1.heap.size W1 w2 := Below.grown hbz hg1 hbz.size (fun kk e => by simp [Value.ownBlock] at e; omega)
        obtain ⟨A9, c9, e9, -⟩ := hP2.frs
        rw [show (row4 q).length = 4 from rfl] at e9
        subst e9
        have hB2 : Below w.heap.size w (w2.alloc (.cells #[.slice A9 4 c9] 39)) := by
          have h9 : Below w.heap.size w w2 := bstep hB1 hb2 hB1.size
          exact h9.alloc h9.size _
        have hzW := hB1.size
        clear hP1 hg1 hat1 hAd hbz
        go_wp2_with (at_builtin; refine wpList_appR rfl (.tmp 28) (.tmp 32) rfl w.heap.size _ ((xs.take k).map rowG) _ (by rfl) ((OwRs.below (B := 0) hR1 hb2).alloc _) w2.heap.size 1 (by rfl) W1.heap.size (.slice A9 4 c9) (row4 q) (hP2.alloc _) (fun kk e => (hR1.lt kk e).2) hzW (World.cell?_alloc_at _ _ _ _ rfl) hml hB2.size ?_; intro v3 w3 hO3 hg3; refine Hid.out ?_)
        refine Lib.hid ?_
        have hB3 : Below w.heap.size w w3 := Below.grown hB2 hg3 hB2.size (fun kk e => by have := (hR1.lt kk e).1; omega)
        go_wp2
        go_roundw
        case rel => exact ⟨k + 1, by omega, by go_num, by rw [HNX.out]; exact hO3, by rw [Hid, allO_succ HS1.out, hall.out, HB2.out]; rfl, hB3⟩
        case measure => simp [intOf]; omega
    · obtain rfl : k = 4 := by omega
      have hreal : xs.all rowOk = true := by
        have := hall.out
        rwa [List.take_of_length_le (by have := HL.out; omega)] at this
      rw [List.take_of_length_le (by have := HL.out; omega)] at hRs
      have he : rowsI xs = some (xs.map rowG) := by
        unfold rowsI
        rw [if_pos]
        simp [hreal, HL.out]
      have HE := Lib.hid he
      clear he hreal hall
      go_wp2
      go_ret2
      exact ⟨⟨_, by rw [HE.out]; rfl, fun rows h => by rw [HE.out] at h; obtain rfl := Option.some.inj h; exact hRs⟩, hB⟩
end Go.Proofs.YtalcjmefmffcnaaDoor
