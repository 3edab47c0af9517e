/-
  Texts of this claim, joined: Un; Uo; Zo; CoD. Nothing is claimed here; the other texts of this claim use it.
-/
import Derived.Test.YtodhbkinbcemnaaGreatDoorUm
import Derived.Test.YtodhbkinbcemnaaGreatDoorKn
import Derived.Test.YtodhbkinbcemnaaGreatDoorQt
import Derived.Test.YtodhbkinbcemnaaGreatDoorPg
import Derived.Test.YtodhbkinbcemnaaGreatDoorFd
import Derived.Test.YtodhbkinbcemnaaGreatDoorCards
import Derived.Test.YtodhbkinbcemnaaGreatDoorTie
import Derived.SevenTiedAt
namespace Go.Proofs.YtodhbkinbcemnaaGreatDoor
set_option linter.unusedSimpArgs false
set_option linter.unusedVariables false
section
open Go.RowKit
attribute [local go_sem ↓] Go.wp_at_zero Go.wp_at_succ
theorem allO_succ {xs : List Sta} {k : Nat} {s : Sta} (h : xs[k]? = some s) : (xs.take (k + 1)).all rowOk = ((xs.take k).all rowOk && rowOk s) := by
  rw [List.take_add_one, h]; simp
theorem allO_fails {xs : List Sta} {k : Nat} {s : Sta} (h : xs[k]? = some s) (hs : rowOk s = false) : xs.all rowOk = false := by
  have hm : s ∈ xs := List.mem_of_getElem? h
  rw [Bool.eq_false_iff]
  intro hc
  rw [List.all_eq_true.1 hc s hm] at hs
  cases hs
theorem rowsG_next {xs : List Sta} {k : Nat} {s : Sta} (h : xs[k]? = some s) : (xs.take (k + 1)).map rowG = (xs.take k).map rowG ++ [rowG s] := by
  rw [List.take_add_one, h, List.map_append]; rfl
set_option maxRecDepth 100000 in
set_option maxHeartbeats 16000000 in
theorem rowsOf_any (A : Option Addr) (len cap : Nat) (xs : List Sta) (w : World) (hS : Sas A len cap xs w) (hO : GO w) (hZ : GZ w) (hT : GT w) :
    Calls Tryz.prog 54 #[.slice A len cap] w fun e w' => (∃ v, e = .returned (.tuple #[v, .bool (rowsI xs).isSome]) ∧ ∀ rows, rowsI xs = some rows → OwRs w.heap.size v rows w') ∧ Below w.heap.size w w' := by
  have hl := hS.2.1
  have hm := hS.2.2.1
  have HL := Lib.hid hS.1
  by_cases h4 : len = 4
  case neg =>
    have hn4 : ((len : Int) == 4) = false := by simp; omega
    have hn4' : ((len : Int) != 4) = true := by simp; omega
    have he : rowsI xs = none := by
      unfold rowsI
      rw [if_neg]
      have := HL.out
      simp only [Bool.and_eq_true, decide_eq_true_eq]
      omega
    have HE := Lib.hid he
    clear he
    go_enter Tryz.func54, Tryz.ntmps54
    go_wp2
    go_ret2
    exact ⟨⟨_, by rw [HE.out]; rfl, fun rows h => by rw [HE.out] at h; cases h⟩, by exact below_⟩
  subst h4
  have hO0 := OwRs.made w w.heap.size (Nat.le_refl _)
  have hB0 : Below w.heap.size w (w.alloc (.cells #[] 31)) := by exact below_
  go_enter Tryz.func54, Tryz.ntmps54
  go_wp2
  go_loopw [4, 15] (fun v iv wr => ∃ k : Nat, k ≤ 4 ∧ iv = .int .i64 k ∧ OwRs w.heap.size v ((xs.take k).map rowG) wr ∧ Hid ((xs.take k).all rowOk = true) ∧ Below w.heap.size w wr) (fun _ iv _ => 4 - (intOf iv).toNat)
  case atStart => exact ⟨0, Nat.zero_le _, rfl, (by simpa using hO0), rfl, hB0⟩
  case round =>
    clear hO0 hB0
    obtain ⟨k, hk, rfl, hRs, hall, hB⟩ := hrel
    have hz := hB.size
    by_cases hkl : k < 4
    · obtain ⟨b1, o1, s, rfl, hlt1, hs1, hc1⟩ := hS.at hB hkl
      obtain ⟨c0, c1⟩ := hc1
      have hki : (k : Int) < 4 := by omega
      obtain ⟨q, ok, hq, hok, hrow⟩ := row_parts s
      have HC := Lib.hid hq
      have HOK := Lib.hid hok
      have HROW := Lib.hid hrow
      have HS1 := Lib.hid hs1
      have hBc : Below w.heap.size w (wr.alloc (.cells #[.int .i64 s.p, .int .i64 s.q] 40)) := by exact below_
      have hzc : w.heap.size ≤ (wr.alloc (.cells #[.int .i64 s.p, .int .i64 s.q] 40)).heap.size := hBc.size
      have hRc : OwRs w.heap.size _ _ (wr.alloc (.cells #[.int .i64 s.p, .int .i64 s.q] 40)) := hRs.alloc _
      clear hq hok hrow hs1
      go_upto_region 8 with (go_at_call 25; (with_reducible refine (row_m s q ok _ (hO.below hBc) (hZ.below hBc) (hT.below hBc) HC).mono ?_); rintro e w1 ⟨rfl, hb⟩)
      obtain ⟨W1, hW1, hR1, hB1, hx1, hzq, hbq⟩ : ∃ W, W = w1.alloc (.cells #[.int .i64 q.a.re, .int .i64 q.a.im, .int .i64 q.a.den, .int .i64 q.b.re, .int .i64 q.b.im, .int .i64 q.b.den, .int .i64 q.c.re, .int .i64 q.c.im, .int .i64 q.c.den, .int .i64 q.d.re, .int .i64 q.d.im, .int .i64 q.d.den] 26) ∧ OwRs w.heap.size _ _ W ∧ Below w.heap.size w W ∧ ArrW W w1.heap.size (row4 q) ∧ w.heap.size ≤ w1.heap.size ∧ w1.heap.size < W.heap.size := by
        have h9 : Below w.heap.size w w1 := bstep hBc hb hzc
        exact ⟨_, rfl, (hRc.below (B := 0) hb).alloc _, h9.alloc h9.size _, ArrW.newM w1 q 26, h9.size, by simp⟩
      rw [← hW1]
      obtain ⟨bq, hbq2⟩ : ∃ b, b = w1.heap.size := ⟨_, rfl⟩
      rw [← hbq2] at hx1 hzq hbq ⊢
      clear hW1 hbq2 hb hRs hB hRc hBc hzc c0 c1
      cases hok : ok
      · have hb2 : rowOk s = false := by rw [← HOK.out, hok]
        have he : rowsI xs = none := by
          unfold rowsI
          rw [allO_fails HS1.out hb2]
          simp
        have HE := Lib.hid he
        clear he hb2
        go_wp2
        go_ret2
        exact ⟨⟨_, by rw [HE.out]; rfl, fun rows h => by rw [HE.out] at h; cases h⟩, by exact below_⟩
      · have hb2 : rowOk s = true := by rw [← HOK.out, hok]
        have hg : rowG s = row4 q := HROW.out hok
        have hnx := rowsG_next HS1.out
        rw [hg] at hnx
        have HNX := Lib.hid hnx
        have HB2 := Lib.hid hb2
        have hml : ((xs.take k).map rowG).length + 1 < 4000000 := by rw [List.length_map, List.length_take]; omega
        have hbz : Below W1.heap.size W1 (W1.alloc (.cells #[] 25)) := (Below.refl _ _).alloc (Nat.le_refl _) _
        have hAd : ∃ bb off : Nat, some (⟨bq, 0, none⟩ : Addr) = some ⟨bb, off, none⟩ ∧ ∀ i z, (row4 q)[i]? = some z → FAt (W1.alloc (.cells #[] 25)) bb (off + i * 3) z :=
          ⟨bq, 0, rfl, fun i z hi => by rw [Nat.zero_add]; exact (hx1.alloc _).c i z hi⟩
        clear hnx hb2 hg
        go_wp2_with (at_builtin; refine wpList_appF rfl (.tmp 27) (.tmp 28) rfl W1.heap.size _ [] _ (by rfl) (OwF.made W1 W1.heap.size (Nat.le_refl _)) (some ⟨bq, 0, none⟩) 4 4 (row4 q) (by rfl) rfl hAd (by simp) hbz.size ?_; intro v1 w2 hP1 hg1 hat1; refine Hid.out ?_)
        refine Lib.hid ?_
        have hP2 : OwF W1.heap.size v1 (row4 q) w2 := hP1
        have hb2 : Below W1.heap.size W1 w2 := Below.grown hbz hg1 hbz.size (fun kk e => by simp [Value.ownBlock] at e; omega)
        obtain ⟨A9, c9, e9, -⟩ := hP2.frs
        rw [show (row4 q).length = 4 from rfl] at e9
        subst e9
        have hB2 : Below w.heap.size w (w2.alloc (.cells #[.slice A9 4 c9] 31)) := by
          have h9 : Below w.heap.size w w2 := bstep hB1 hb2 hB1.size
          exact h9.alloc h9.size _
        have hzW := hB1.size
        clear hP1 hg1 hat1 hAd hbz
        go_wp2_with (at_builtin; refine wpList_appR rfl (.tmp 26) (.tmp 30) rfl w.heap.size _ ((xs.take k).map rowG) _ (by rfl) ((OwRs.below (B := 0) hR1 hb2).alloc _) w2.heap.size 1 (by rfl) W1.heap.size (.slice A9 4 c9) (row4 q) (hP2.alloc _) (fun kk e => (hR1.lt kk e).2) hzW (World.cell?_alloc_at _ _ _ _ rfl) hml hB2.size ?_; intro v3 w3 hO3 hg3; refine Hid.out ?_)
        refine Lib.hid ?_
        have hB3 : Below w.heap.size w w3 := Below.grown hB2 hg3 hB2.size (fun kk e => by have := (hR1.lt kk e).1; omega)
        go_wp2
        go_roundw
        case rel => exact ⟨k + 1, by omega, by go_num, by rw [HNX.out]; exact hO3, by rw [Hid, allO_succ HS1.out, hall.out, HB2.out]; rfl, hB3⟩
        case measure => simp [intOf]; omega
    · obtain rfl : k = 4 := by omega
      have hreal : xs.all rowOk = true := by
        have := hall.out
        rwa [List.take_of_length_le (by have := HL.out; omega)] at this
      rw [List.take_of_length_le (by have := HL.out; omega)] at hRs
      have he : rowsI xs = some (xs.map rowG) := by
        unfold rowsI
        rw [if_pos]
        simp [hreal, HL.out]
      have HE := Lib.hid he
      clear he hreal hall
      go_wp2
      go_ret2
      exact ⟨⟨_, by rw [HE.out]; rfl, fun rows h => by rw [HE.out] at h; obtain rfl := Option.some.inj h; exact hRs⟩, hB⟩
set_option maxRecDepth 100000 in
set_option maxHeartbeats 16000000 in
theorem srows_any (A : Option Addr) (len cap : Nat) (xs : List Sta) (w : World) (hS : Sas A len cap xs w) :
    Calls Tryz.prog 57 #[.slice A len cap] w fun e w' => (∃ v, e = .returned (.tuple #[v, .bool (rowsI xs).isSome]) ∧ ∀ rows, rowsI xs = some rows → OwRs w.heap.size v rows w') ∧ Below w.heap.size w w' := by
  have hl := hS.2.1
  have hm := hS.2.2.1
  have HL := Lib.hid hS.1
  by_cases h4 : len = 4
  case neg =>
    have hn4 : ((len : Int) == 4) = false := by simp; omega
    have hn4' : ((len : Int) != 4) = true := by simp; omega
    have he : rowsI xs = none := by
      unfold rowsI
      rw [if_neg]
      have := HL.out
      simp only [Bool.and_eq_true, decide_eq_true_eq]
      omega
    have HE := Lib.hid he
    clear he
    go_enter Tryz.func57, Tryz.ntmps57
    go_wp2
    go_ret2
    exact ⟨⟨_, by rw [HE.out]; rfl, fun rows h => by rw [HE.out] at h; cases h⟩, by exact below_⟩
  subst h4
  have hO0 := OwRs.made w w.heap.size (Nat.le_refl _)
  have hB0 : Below w.heap.size w (w.alloc (.cells #[] 31)) := by exact below_
  go_enter Tryz.func57, Tryz.ntmps57
  go_wp2
  go_loopw [4, 5] (fun v iv wr => ∃ k : Nat, k ≤ 4 ∧ iv = .int .i64 k ∧ OwRs w.heap.size v ((xs.take k).map rowG) wr ∧ Hid ((xs.take k).all rowOk = true) ∧ Below w.heap.size w wr) (fun _ iv _ => 4 - (intOf iv).toNat)
  case atStart => exact ⟨0, Nat.zero_le _, rfl, (by simpa using hO0), rfl, hB0⟩
  case round =>
    clear hO0 hB0
    obtain ⟨k, hk, rfl, hRs, hall, hB⟩ := hrel
    have hz := hB.size
    by_cases hkl : k < 4
    · obtain ⟨b1, o1, s, rfl, hlt1, hs1, hc1⟩ := hS.at hB hkl
      obtain ⟨c0, c1⟩ := hc1
      have hki : (k : Int) < 4 := by omega
      obtain ⟨q, ok, hq, hok, hrow⟩ := row_parts s
      have HC := Lib.hid hq
      have HOK := Lib.hid hok
      have HROW := Lib.hid hrow
      have HS1 := Lib.hid hs1
      have hBc : Below w.heap.size w wr := by exact below_
      have hzc : w.heap.size ≤ wr.heap.size := hBc.size
      have hRc : OwRs w.heap.size _ _ wr := hRs
      clear hq hok hrow hs1
      go_upto_region 8 with (go_at_call 29; (with_reducible refine (srow_m s q ok _ HC).mono ?_); rintro e w1 ⟨rfl, hb⟩)
      obtain ⟨W1, hW1, hR1, hB1, hx1, hzq, hbq⟩ : ∃ W, W = w1.alloc (.cells #[.int .i64 q.a.re, .int .i64 q.a.im, .int .i64 q.a.den, .int .i64 q.b.re, .int .i64 q.b.im, .int .i64 q.b.den, .int .i64 q.c.re, .int .i64 q.c.im, .int .i64 q.c.den, .int .i64 q.d.re, .int .i64 q.d.im, .int .i64 q.d.den] 26) ∧ OwRs w.heap.size _ _ W ∧ Below w.heap.size w W ∧ ArrW W w1.heap.size (row4 q) ∧ w.heap.size ≤ w1.heap.size ∧ w1.heap.size < W.heap.size := by
        have h9 : Below w.heap.size w w1 := bstep hBc hb hzc
        exact ⟨_, rfl, (hRc.below (B := 0) hb).alloc _, h9.alloc h9.size _, ArrW.newM w1 q 26, h9.size, by simp⟩
      rw [← hW1]
      obtain ⟨bq, hbq2⟩ : ∃ b, b = w1.heap.size := ⟨_, rfl⟩
      rw [← hbq2] at hx1 hzq hbq ⊢
      clear hW1 hbq2 hb hRs hB hRc hBc hzc c0 c1
      cases hok : ok
      · have hb2 : rowOk s = false := by rw [← HOK.out, hok]
        have he : rowsI xs = none := by
          unfold rowsI
          rw [allO_fails HS1.out hb2]
          simp
        have HE := Lib.hid he
        clear he hb2
        go_wp2
        go_ret2
        exact ⟨⟨_, by rw [HE.out]; rfl, fun rows h => by rw [HE.out] at h; cases h⟩, by exact below_⟩
      · have hb2 : rowOk s = true := by rw [← HOK.out, hok]
        have hg : rowG s = row4 q := HROW.out hok
        have hnx := rowsG_next HS1.out
        rw [hg] at hnx
        have HNX := Lib.hid hnx
        have HB2 := Lib.hid hb2
        have hml : ((xs.take k).map rowG).length + 1 < 4000000 := by rw [List.length_map, List.length_take]; omega
        have hbz : Below W1.heap.size W1 (W1.alloc (.cells #[] 25)) := (Below.refl _ _).alloc (Nat.le_refl _) _
        have hAd : ∃ bb off : Nat, some (⟨bq, 0, none⟩ : Addr) = some ⟨bb, off, none⟩ ∧ ∀ i z, (row4 q)[i]? = some z → FAt (W1.alloc (.cells #[] 25)) bb (off + i * 3) z :=
          ⟨bq, 0, rfl, fun i z hi => by rw [Nat.zero_add]; exact (hx1.alloc _).c i z hi⟩
        clear hnx hb2 hg
        go_wp2_with (at_builtin; refine wpList_appF rfl (.tmp 29) (.tmp 30) rfl W1.heap.size _ [] _ (by rfl) (OwF.made W1 W1.heap.size (Nat.le_refl _)) (some ⟨bq, 0, none⟩) 4 4 (row4 q) (by rfl) rfl hAd (by simp) hbz.size ?_; intro v1 w2 hP1 hg1 hat1; refine Hid.out ?_)
        refine Lib.hid ?_
        have hP2 : OwF W1.heap.size v1 (row4 q) w2 := hP1
        have hb2 : Below W1.heap.size W1 w2 := Below.grown hbz hg1 hbz.size (fun kk e => by simp [Value.ownBlock] at e; omega)
        obtain ⟨A9, c9, e9, -⟩ := hP2.frs
        rw [show (row4 q).length = 4 from rfl] at e9
        subst e9
        have hB2 : Below w.heap.size w (w2.alloc (.cells #[.slice A9 4 c9] 31)) := by
          have h9 : Below w.heap.size w w2 := bstep hB1 hb2 hB1.size
          exact h9.alloc h9.size _
        have hzW := hB1.size
        clear hP1 hg1 hat1 hAd hbz
        go_wp2_with (at_builtin; refine wpList_appR rfl (.tmp 28) (.tmp 32) rfl w.heap.size _ ((xs.take k).map rowG) _ (by rfl) ((OwRs.below (B := 0) hR1 hb2).alloc _) w2.heap.size 1 (by rfl) W1.heap.size (.slice A9 4 c9) (row4 q) (hP2.alloc _) (fun kk e => (hR1.lt kk e).2) hzW (World.cell?_alloc_at _ _ _ _ rfl) hml hB2.size ?_; intro v3 w3 hO3 hg3; refine Hid.out ?_)
        refine Lib.hid ?_
        have hB3 : Below w.heap.size w w3 := Below.grown hB2 hg3 hB2.size (fun kk e => by have := (hR1.lt kk e).1; omega)
        go_wp2
        go_roundw
        case rel => exact ⟨k + 1, by omega, by go_num, by rw [HNX.out]; exact hO3, by rw [Hid, allO_succ HS1.out, hall.out, HB2.out]; rfl, hB3⟩
        case measure => simp [intOf]; omega
    · obtain rfl : k = 4 := by omega
      have hreal : xs.all rowOk = true := by
        have := hall.out
        rwa [List.take_of_length_le (by have := HL.out; omega)] at this
      rw [List.take_of_length_le (by have := HL.out; omega)] at hRs
      have he : rowsI xs = some (xs.map rowG) := by
        unfold rowsI
        rw [if_pos]
        simp [hreal, HL.out]
      have HE := Lib.hid he
      clear he hreal hall
      go_wp2
      go_ret2
      exact ⟨⟨_, by rw [HE.out]; rfl, fun rows h => by rw [HE.out] at h; obtain rfl := Option.some.inj h; exact hRs⟩, hB⟩
end
section
open Go.RowKit
attribute [local go_sem ↓] Go.wp_at_zero Go.wp_at_succ
theorem arrV_none {o : Option (List Fr)} {q : Mt} {ok : Bool} (h : arrV o = .tuple #[mtv q, .bool ok]) (hk : ok = false) : q = zM4 := by
  subst hk
  unfold arrV at h
  split at h
  · simp at h
  · obtain ⟨⟨a0, a1, a2⟩, ⟨b0, b1, b2⟩, ⟨c0, c1, c2⟩, ⟨d0, d1, d2⟩⟩ := q
    simp at h
    obtain ⟨rfl, rfl, rfl, rfl, rfl, rfl, rfl, rfl, rfl, rfl, rfl, rfl⟩ := h
    rfl
theorem got_frS (a g : Fr) (bs : Nat) (b n : Bool) (w : World) (hs : SumIs w bs b) (h : Hid (gotF b (⟨0, 0, 0⟩ : Fr) a = g ∧ (!b) = n)) :
    Calls Tryz.prog 86 #[.pointer (some ⟨bs, 0, none⟩), frv a] w fun e w' => e = .returned (.tuple #[frv g, .bool n]) ∧ Below w.heap.size w w' :=
  (got_frac a bs w (SumEx.of hs)).mono fun e w' ⟨c, h1, h2, h3⟩ => ⟨by rw [← h.out.1, ← h.out.2, hs.uniq h1]; exact h2, h3⟩
theorem rowsOf_t (A : Option Addr) (len cap : Nat) (xs : List Sta) (w : World) (hS : Sas A len cap xs w) (hO : GO w) (hZ : GZ w) (hT : GT w) (rows : List (List Fr)) (h : rowsI xs = some rows) :
    Calls Tryz.prog 54 #[.slice A len cap] w fun e w' => (∃ v, e = .returned (.tuple #[v, .bool true]) ∧ OwRs w.heap.size v rows w') ∧ Below w.heap.size w w' :=
  (rowsOf_any A len cap xs w hS hO hZ hT).mono fun e w' ⟨⟨v, h1, h2⟩, h3⟩ => ⟨⟨v, by rw [h1, h]; rfl, h2 rows h⟩, h3⟩
theorem rowsOf_f (A : Option Addr) (len cap : Nat) (xs : List Sta) (w : World) (hS : Sas A len cap xs w) (hO : GO w) (hZ : GZ w) (hT : GT w) (h : rowsI xs = none) :
    Calls Tryz.prog 54 #[.slice A len cap] w fun e w' => (∃ v, e = .returned (.tuple #[v, .bool false])) ∧ Below w.heap.size w w' :=
  (rowsOf_any A len cap xs w hS hO hZ hT).mono fun e w' ⟨⟨v, h1, _⟩, h3⟩ => ⟨⟨v, by rw [h1, h]; rfl⟩, h3⟩
theorem srows_t (A : Option Addr) (len cap : Nat) (xs : List Sta) (w : World) (hS : Sas A len cap xs w) (rows : List (List Fr)) (h : rowsI xs = some rows) :
    Calls Tryz.prog 57 #[.slice A len cap] w fun e w' => (∃ v, e = .returned (.tuple #[v, .bool true]) ∧ OwRs w.heap.size v rows w') ∧ Below w.heap.size w w' :=
  (srows_any A len cap xs w hS).mono fun e w' ⟨⟨v, h1, h2⟩, h3⟩ => ⟨⟨v, by rw [h1, h]; rfl, h2 rows h⟩, h3⟩
theorem srows_f (A : Option Addr) (len cap : Nat) (xs : List Sta) (w : World) (hS : Sas A len cap xs w) (h : rowsI xs = none) :
    Calls Tryz.prog 57 #[.slice A len cap] w fun e w' => (∃ v, e = .returned (.tuple #[v, .bool false])) ∧ Below w.heap.size w w' :=
  (srows_any A len cap xs w hS).mono fun e w' ⟨⟨v, h1, _⟩, h3⟩ => ⟨⟨v, by rw [h1, h]; rfl⟩, h3⟩
set_option maxRecDepth 100000 in
set_option maxHeartbeats 8000000 in
theorem det_any (A : Option Addr) (len cap : Nat) (xs : List Sta) (w : World) (hS : Sas A len cap xs w) (hO : GO w) (hZ : GZ w) (hT : GT w) :
    Calls Tryz.prog 53 #[.slice A len cap] w fun e w' => e = .returned (frb (detM xs)) ∧ Below w.heap.size w w' := by
  have hr0 : Blk (w.alloc (.cells #[.int .i64 0, .int .i64 0, .int .i64 0] 25)) w.heap.size z3c 25 := heap_alloc_last w _
  cases hR : rowsI xs with
  | none =>
    have HR := Lib.hid hR
    have he : detM xs = none := by unfold detM; rw [hR]; rfl
    rw [he]
    clear he hR
    go_enter Tryz.func53, Tryz.ntmps53
    go_wp2_with (first | (go_at_call 54; (with_reducible refine (rowsOf_f A len cap xs _ (hS.below (by exact below_)) (hO.below (by exact below_)) (hZ.below (by exact below_)) (hT.below (by exact below_)) HR.out).mono ?_); rintro e w1 ⟨⟨v, rfl⟩, hb⟩; have hB : Below w.heap.size w w1 := bstep (by exact below_) hb (by simp); have hr1 : Blk w1 w.heap.size z3c 25 := (hb.block _ (by simp)).trans hr0; obtain ⟨c0, c1, c2⟩ := blk_get (xs := [zK]) hr1 (i := 0) (show 0 < 1 by decide); have cf := blk_free hr1; simp only [Nat.zero_mul, Nat.zero_add] at c0 c1 c2; clear hb hr0))
    exact bodyPost_ret (v := frb none) (by simp [results, Tryz.results53, go_sem, frb, *]) rfl ⟨rfl, by exact below_⟩
  | some rows =>
    have HR := Lib.hid hR
    obtain ⟨d, hd⟩ : ∃ d, d = detI 3 rows := ⟨_, rfl⟩
    have he : detM xs = if d.2 then none else some d.1 := by unfold detM; rw [hR, hd]; rfl
    rw [he]
    obtain ⟨gv, gn, hgv⟩ : ∃ x n, gotF d.2 (⟨0, 0, 0⟩ : Fr) d.1 = x ∧ (!d.2) = n := ⟨_, _, rfl, rfl⟩
    have hform : frb (if d.2 then none else some d.1) = .tuple #[frv gv, .bool gn] := by rw [← hgv.1, ← hgv.2]; cases d.2 <;> rfl
    rw [hform]
    have HGV := Lib.hid hgv
    clear hgv hform
    have hsq := rowsI_sq hR
    have hshp : Shape 3 rows := ⟨hsq.1, fun r hr => (hsq.2 r hr).1⟩
    have HD : Hid (∀ A1 c1 bs W, RowsAt bs A1 4 c1 rows W → SumEx W bs → Calls Tryz.prog 87 #[.pointer (some ⟨bs, 0, none⟩), .slice A1 4 c1] W fun e w' => e = .returned (frv d.1) ∧ (∀ c, SumIs W bs c → SumIs w' bs (c || d.2)) ∧ BelX W.heap.size bs W w') := Lib.hid (fun A1 c1 bs W h1 h2 => by rw [hd]; exact det3 A1 c1 bs rows W hshp h1 h2)
    clear he hR hd hsq hshp
    go_enter Tryz.func53, Tryz.ntmps53
    go_upto_region 4 with (first | (go_at_call 54; (with_reducible refine (rowsOf_t A len cap xs _ (hS.below (by exact below_)) (hO.below (by exact below_)) (hZ.below (by exact below_)) (hT.below (by exact below_)) rows HR.out).mono ?_); rintro e w1 ⟨⟨v, rfl, hRs⟩, hb⟩; have hB : Below w.heap.size w w1 := bstep (by exact below_) hb (by simp); have hr1 : Blk w1 w.heap.size z3c 25 := (hb.block _ (by simp)).trans hr0; have hzz : w.heap.size < w1.heap.size := blk_lt hr1; clear hb hr0))
    have hlen : rows.length = 4 := (rowsI_sq HR.out).1
    obtain ⟨A1, c1, e1, -⟩ := hRs.readA (bs := w1.heap.size) (Nat.le_refl _)
    rw [hlen] at e1
    subst e1
    have hRR : ∀ bs, w1.heap.size ≤ bs → RowsAt bs A1 4 c1 rows w1 := by
      intro bs hbs
      obtain ⟨A', c', e', hR'⟩ := hRs.readA hbs
      rw [hlen] at e' hR'
      simp only [Value.slice.injEq, true_and] at e'
      obtain ⟨rfl, rfl⟩ := e'
      exact hR'
    clear hRs hlen
    have hs2 : SumIs (w1.alloc (.cells #[.bool false] 64)) w1.heap.size false := SumIs.new' rfl
    have hR2 : RowsAt w1.heap.size A1 4 c1 rows (w1.alloc (.cells #[.bool false] 64)) := (hRR _ (Nat.le_refl _)).belX ((BelX.refl _ _ _).alloc (Nat.le_refl _) _)
    go_upto_region 5 with fail
    go_wp2_with (first | (go_at_call 87; (with_reducible refine (HD.out A1 c1 w1.heap.size _ hR2 (SumEx.of hs2)).mono ?_); rintro e w2 ⟨rfl, hu, hx⟩; have hs3 := (hu _ hs2).sub (Bool.false_or d.2); have hr2 : Blk w2 w.heap.size z3c 25 := (hx.block _ (by simp; omega) (by omega)).trans ((Below.heap_alloc _ _ _ hzz).trans hr1); have hB2 : Below w.heap.size w w2 := (((BelX.of (hB.alloc hB.size _)).trans (hx.mono (by simp; omega))).below (by omega)); clear hu hx) | (go_at_call 86; (with_reducible refine (got_frS d.1 gv w1.heap.size d.2 gn _ hs3 HGV).mono ?_); rintro e w3 ⟨rfl, hb⟩; have hB3 : Below w.heap.size w w3 := bstep hB2 hb hB2.size; have hr3 : Blk w3 w.heap.size z3c 25 := (hb.block _ (blk_lt hr2)).trans hr2; obtain ⟨k0, k1, k2⟩ := blk_get (xs := [zK]) hr3 (i := 0) (show 0 < 1 by decide); have kf := blk_free hr3; simp only [Nat.zero_mul, Nat.zero_add] at k0 k1 k2; clear hb))
    exact bodyPost_ret (v := .tuple #[frv gv, .bool gn]) (by simp [results, Tryz.results53, go_sem, *]) rfl ⟨rfl, by exact below_⟩
theorem det_any_m (A : Option Addr) (len cap : Nat) (xs : List Sta) (w : World) (hS : Sas A len cap xs w) (hO : GO w) (hZ : GZ w) (hT : GT w) (f : Fr) (ok : Bool) (e : Hid (frb (detM xs) = .tuple #[frv f, .bool ok])) :
    Calls Tryz.prog 53 #[.slice A len cap] w fun e w' => e = .returned (.tuple #[frv f, .bool ok]) ∧ Below w.heap.size w w' := by
  rw [← e.out]; exact det_any A len cap xs w hS hO hZ hT
set_option maxRecDepth 100000 in
set_option maxHeartbeats 8000000 in
theorem good_any (A : Option Addr) (len cap : Nat) (xs : List Sta) (w : World) (hS : Sas A len cap xs w) (hO : GO w) (hZ : GZ w) (hT : GT w) :
    Calls Tryz.prog 15 #[.slice A len cap] w fun e w' => e = .returned (.bool (goodM xs)) ∧ Below w.heap.size w w' := by
  cases hD : detM xs with
  | none =>
    have hv : goodM xs = false := by unfold goodM; rw [hD]; rfl
    rw [hv]
    have HD := Lib.hid (show frb (detM xs) = .tuple #[frv zK, .bool false] by rw [hD]; rfl)
    clear hD hv
    go_enter Tryz.func15, Tryz.ntmps15
    go_wp2_with (go_at_call 53; (with_reducible refine (det_any_m A len cap xs _ hS hO hZ hT _ _ HD).mono ?_); rintro e w1 ⟨rfl, hb⟩; have hz := hb.size)
    go_ret
    exact ⟨rfl, by exact below_⟩
  | some f =>
    obtain ⟨rows, -, -, -, rv⟩ := detM_some hD
    have hv : goodM xs = !(f.re == 0) := by unfold goodM; rw [hD]; rfl
    have hz := real_zero rv
    rw [← frq_eq] at hz
    simp only at hz
    rw [hv]
    have HD := Lib.hid (show frb (detM xs) = .tuple #[frv f, .bool true] by rw [hD]; rfl)
    have HV := Lib.hid hz
    clear hD hv hz
    go_enter Tryz.func15, Tryz.ntmps15
    go_wp2_with (go_at_call 53; (with_reducible refine (det_any_m A len cap xs _ hS hO hZ hT _ _ HD).mono ?_); rintro e w1 ⟨rfl, hb⟩; have hz := hb.size; have hZ1 := hZ.below hb; obtain ⟨z0, z1, z2⟩ := hZ1.val; have hl := hZ1.lts; clear hZ1)
    all_goals go_ret
    all_goals (refine ⟨?_, by exact below_⟩; have hv := HV.out; simp_all)
set_option maxRecDepth 100000 in
set_option maxHeartbeats 8000000 in
theorem msolve_any (A : Option Addr) (len cap : Nat) (xs : List Sta) (w : World) (hS : Sas A len cap xs w) (A2 : Option Addr) (len2 cap2 : Nat) (rs : List Fr) (hF : Frs A2 len2 cap2 rs w) (hO : GO w) (hZ : GZ w) (hT : GT w) :
    Calls Tryz.prog 16 #[.slice A len cap, .slice A2 len2 cap2] w fun e w' => e = .returned (arrV (solM xs rs)) ∧ Below w.heap.size w w' := by
  have hA0 := ArrW.zero w 28
  cases hR : rowsI xs with
  | none =>
    have HR := Lib.hid hR
    have he : solM xs rs = none := by unfold solM; rw [hR]; rfl
    rw [he]
    clear he hR
    go_enter Tryz.func16, Tryz.ntmps16
    go_wp2_with (first | (go_at_call 54; (with_reducible refine (rowsOf_f A len cap xs _ (hS.below (by exact below_)) (hO.below (by exact below_)) (hZ.below (by exact below_)) (hT.below (by exact below_)) HR.out).mono ?_); rintro e w1 ⟨⟨v, rfl⟩, hb⟩; have hB : Below w.heap.size w w1 := bstep (by exact below_) hb (by simp); have hA1 := hA0.below hb; clear hb; obtain ⟨z0, z1, z2, z3, z4, z5, z6, z7, z8, z9, z10, z11⟩ := hA1.z; have hzf := hA1.f; have hzl := hA1.l))
    exact bodyPost_ret (v := arrV none) (by simp [results, Tryz.results16, go_sem, arrV, *]) rfl ⟨rfl, by exact below_⟩
  | some rows =>
    have HR := Lib.hid hR
    obtain ⟨q, ok, hq⟩ := arrV_form (solI rows rs)
    have he : arrV (solM xs rs) = .tuple #[mtv q, .bool ok] := by unfold solM; rw [hR, ← hq]; rfl
    
    have hsq := rowsI_sq hR
    have hrl : ∀ r ∈ rows, r.length = 4 := fun r hr => (hsq.2 r hr).1
    rw [he]
    have HQ := Lib.hid hq
    clear he hR hsq hq
    go_enter Tryz.func16, Tryz.ntmps16
    go_upto_region 4 with (first | (go_at_call 54; (with_reducible refine (rowsOf_t A len cap xs _ (hS.below (by exact below_)) (hO.below (by exact below_)) (hZ.below (by exact below_)) (hT.below (by exact below_)) rows HR.out).mono ?_); rintro e w1 ⟨⟨v, rfl, hRs⟩, hb⟩; have hB : Below w.heap.size w w1 := bstep (by exact below_) hb (by simp); have hA1 := hA0.below hb; clear hb))
    have hlen : rows.length = 4 := (rowsI_sq HR.out).1
    obtain ⟨A1, c1, e1, -⟩ := hRs.readA (bs := w1.heap.size) (Nat.le_refl _)
    rw [hlen] at e1
    subst e1
    have hRR : ∀ bs, w1.heap.size ≤ bs → RowsAt bs A1 4 c1 rows w1 := by
      intro bs hbs
      obtain ⟨A', c', e', hR'⟩ := hRs.readA hbs
      rw [hlen] at e' hR'
      simp only [Value.slice.injEq, true_and] at e'
      obtain ⟨rfl, rfl⟩ := e'
      exact hR'
    clear hRs hlen
    go_wp2_with (go_at_call 55; (with_reducible refine (solve_m A1 4 c1 rows A2 len2 cap2 rs q ok _ hRR hrl (hF.below hB) (hZ.below hB) HQ).mono ?_); rintro e w2 ⟨rfl, hb⟩; refine Hid.out ?_)
    refine Lib.hid ?_
    go_upto_region 5 with fail
    obtain ⟨bq, hbq⟩ : ∃ b, b = w2.heap.size := ⟨_, rfl⟩
    obtain ⟨W3, hW3, hA2, hB2, hM2⟩ : ∃ W, W = w2.alloc (.cells #[.int .i64 q.a.re, .int .i64 q.a.im, .int .i64 q.a.den, .int .i64 q.b.re, .int .i64 q.b.im, .int .i64 q.b.den, .int .i64 q.c.re, .int .i64 q.c.im, .int .i64 q.c.den, .int .i64 q.d.re, .int .i64 q.d.im, .int .i64 q.d.den] 26) ∧ ArrW W w.heap.size zs4 ∧ Below w.heap.size w W ∧ MtAt W bq q := by
      have h9 : Below w.heap.size w w2 := bstep hB hb hB.size
      refine ⟨_, rfl, (hA1.below hb).alloc _, h9.alloc h9.size _, ?_⟩
      rw [hbq]; exact MtAt.new w2 q 26
    rw [← hW3, ← hbq]
    obtain ⟨z0, z1, z2, z3, z4, z5, z6, z7, z8, z9, z10, z11⟩ := hA2.z
    have hzf := hA2.f
    have hzl := hA2.l
    obtain ⟨y0, y1, y2, y3, y4, y5, y6, y7, y8, y9, y10, y11⟩ := hM2
    clear hb hRR hW3 hbq hA1 hA2
    go_wp2
    exact bodyPost_ret (v := .tuple #[mtv q, .bool ok]) (by simp [results, Tryz.results16, go_sem, *]) rfl ⟨rfl, by exact below_⟩
set_option maxRecDepth 100000 in
set_option maxHeartbeats 8000000 in
theorem smsolve_any (A : Option Addr) (len cap : Nat) (xs : List Sta) (w : World) (hS : Sas A len cap xs w) (A2 : Option Addr) (len2 cap2 : Nat) (rs : List Fr) (hF : Frs A2 len2 cap2 rs w) :
    Calls Tryz.prog 18 #[.slice A len cap, .slice A2 len2 cap2] w fun e w' => e = .returned (arrV (solM xs rs)) ∧ Below w.heap.size w w' := by
  have hA0 := ArrW.zero w 28
  cases hR : rowsI xs with
  | none =>
    have HR := Lib.hid hR
    have he : solM xs rs = none := by unfold solM; rw [hR]; rfl
    rw [he]
    clear he hR
    go_enter Tryz.func18, Tryz.ntmps18
    go_wp2_with (first | (go_at_call 57; (with_reducible refine (srows_f A len cap xs _ (hS.below (by exact below_)) HR.out).mono ?_); rintro e w1 ⟨⟨v, rfl⟩, hb⟩; have hB : Below w.heap.size w w1 := bstep (by exact below_) hb (by simp); have hA1 := hA0.below hb; clear hb; obtain ⟨z0, z1, z2, z3, z4, z5, z6, z7, z8, z9, z10, z11⟩ := hA1.z; have hzf := hA1.f; have hzl := hA1.l))
    exact bodyPost_ret (v := arrV none) (by simp [results, Tryz.results18, go_sem, arrV, *]) rfl ⟨rfl, by exact below_⟩
  | some rows =>
    have HR := Lib.hid hR
    obtain ⟨q, ok, hq⟩ := arrV_form (solS rows rs)
    have he : arrV (solM xs rs) = .tuple #[mtv q, .bool ok] := by rw [solM_S, hR, ← hq]; rfl
    have hz0 := arrV_none hq
    have hsq := rowsI_sq hR
    have hrl : ∀ r ∈ rows, r.length = 4 := fun r hr => (hsq.2 r hr).1
    rw [he]
    have HQ := Lib.hid hq
    clear he hR hsq hq
    go_enter Tryz.func18, Tryz.ntmps18
    go_upto_region 4 with (first | (go_at_call 57; (with_reducible refine (srows_t A len cap xs _ (hS.below (by exact below_)) rows HR.out).mono ?_); rintro e w1 ⟨⟨v, rfl, hRs⟩, hb⟩; have hB : Below w.heap.size w w1 := bstep (by exact below_) hb (by simp); have hA1 := hA0.below hb; clear hb))
    have hlen : rows.length = 4 := (rowsI_sq HR.out).1
    obtain ⟨A1, c1, e1, -⟩ := hRs.readA (bs := w1.heap.size) (Nat.le_refl _)
    rw [hlen] at e1
    subst e1
    have hRR : ∀ bs, w1.heap.size ≤ bs → RowsAt bs A1 4 c1 rows w1 := by
      intro bs hbs
      obtain ⟨A', c', e', hR'⟩ := hRs.readA hbs
      rw [hlen] at e' hR'
      simp only [Value.slice.injEq, true_and] at e'
      obtain ⟨rfl, rfl⟩ := e'
      exact hR'
    clear hRs hlen
    go_wp2_with (go_at_call 58; (with_reducible refine (ssolve_m A1 c1 rows A2 len2 cap2 rs q ok _ hRR hrl (hF.below hB) HQ).mono ?_); rintro e w2 ⟨rfl, hb⟩; refine Hid.out ?_)
    refine Lib.hid ?_
    go_upto_region 5 with fail
    obtain ⟨bq, hbq⟩ : ∃ b, b = w2.heap.size := ⟨_, rfl⟩
    obtain ⟨W3, hW3, hA2, hB2, hM2⟩ : ∃ W, W = w2.alloc (.cells #[.int .i64 q.a.re, .int .i64 q.a.im, .int .i64 q.a.den, .int .i64 q.b.re, .int .i64 q.b.im, .int .i64 q.b.den, .int .i64 q.c.re, .int .i64 q.c.im, .int .i64 q.c.den, .int .i64 q.d.re, .int .i64 q.d.im, .int .i64 q.d.den] 26) ∧ ArrW W w.heap.size zs4 ∧ Below w.heap.size w W ∧ MtAt W bq q := by
      have h9 : Below w.heap.size w w2 := bstep hB hb hB.size
      refine ⟨_, rfl, (hA1.below hb).alloc _, h9.alloc h9.size _, ?_⟩
      rw [hbq]; exact MtAt.new w2 q 26
    rw [← hW3, ← hbq]
    obtain ⟨z0, z1, z2, z3, z4, z5, z6, z7, z8, z9, z10, z11⟩ := hA2.z
    have hzf := hA2.f
    have hzl := hA2.l
    obtain ⟨y0, y1, y2, y3, y4, y5, y6, y7, y8, y9, y10, y11⟩ := hM2
    clear hb hRR hW3 hbq hA1 hA2
    cases hk : ok
    · obtain rfl := hz0 hk
      go_wp2
      exact bodyPost_ret (v := .tuple #[mtv zM4, .bool false]) (by simp [results, Tryz.results18, go_sem, zM4, *]) rfl ⟨rfl, by exact below_⟩
    · go_wp2
      exact bodyPost_ret (v := .tuple #[mtv q, .bool true]) (by simp [results, Tryz.results18, go_sem, *]) rfl ⟨by rw [hk], by exact below_⟩
end
section
open Go.RowKit
attribute [local go_sem ↓] Go.wp_at_zero Go.wp_at_succ
theorem msolve_U (A : Option Addr) (len cap : Nat) (xs : List Sta) (A2 : Option Addr) (len2 cap2 : Nat) (rs : List Fr) (q : Mt) (ok : Bool) (w : World) (hS : Sas A len cap xs w) (hF : Frs A2 len2 cap2 rs w) (hO : GO w) (hZ : GZ w) (hT : GT w) (e : Hid (arrV (solM xs rs) = .tuple #[mtv q, .bool ok])) :
    Calls Tryz.prog 16 #[.slice A len cap, .slice A2 len2 cap2] w fun e w' => e = .returned (.tuple #[mtv q, .bool ok]) ∧ Below w.heap.size w w' := by
  rw [← e.out]; exact msolve_any A len cap xs w hS A2 len2 cap2 rs hF hO hZ hT
theorem good_U (A : Option Addr) (len cap : Nat) (xs : List Sta) (w : World) (hS : Sas A len cap xs w) (hO : GO w) (hZ : GZ w) (hT : GT w) (ok : Bool) (e : Hid (goodM xs = ok)) :
    Calls Tryz.prog 15 #[.slice A len cap] w fun e w' => e = .returned (.bool ok) ∧ Below w.heap.size w w' := by
  rw [← e.out]; exact good_any A len cap xs w hS hO hZ hT
theorem arrV_someU {o : Option (List Fr)} {q : Mt} (h : arrV o = .tuple #[mtv q, .bool true]) : o = some (row4 q) := by
  match o, h with
  | none, h => simp [arrV] at h
  | some [], h => simp [arrV] at h
  | some [_], h => simp [arrV] at h
  | some [_, _], h => simp [arrV] at h
  | some [_, _, _], h => simp [arrV] at h
  | some [⟨a0, a1, a2⟩, ⟨b0, b1, b2⟩, ⟨c0, c1, c2⟩, ⟨d0, d1, d2⟩], h =>
    obtain ⟨⟨e0, e1, e2⟩, ⟨f0, f1, f2⟩, ⟨g0, g1, g2⟩, ⟨h0, h1, h2⟩⟩ := q
    simp [arrV] at h
    simp [row4, h]
  | some (_ :: _ :: _ :: _ :: _ :: _), h => simp [arrV] at h
theorem row4_inj {a b : Mt} (h : row4 a = row4 b) : a = b := by
  obtain ⟨a0, a1, a2, a3⟩ := a
  obtain ⟨b0, b1, b2, b3⟩ := b
  simp only [row4, List.cons.injEq, and_true] at h
  obtain ⟨rfl, rfl, rfl, rfl⟩ := h
  rfl
section
attribute [local go_sem] eqM_run
set_option maxRecDepth 100000 in
set_option maxHeartbeats 8000000 in
theorem fnSolved_walk (A : Option Addr) (len cap : Nat) (w : World) (hby : Bytes A len cap w) (hGO : GO w) (hGZ : GZ w) (hGT : GT w) :
    Calls Tryz.prog 4 #[.slice A len cap] w fun e w' => e = .returned (.bool true) ∧ Below w.heap.size w w' := by
  have hcap := hby.2.1
  have hlc := hby.1
  by_cases hbig : 1048576 < len
  · have hd : decide ((1048576 : Int) < (len : Int)) = true := by simp; omega
    go_enter Tryz.func4, Tryz.ntmps4
    go_wp2
    go_ret
    exact ⟨rfl, by exact below_⟩
  have hd : decide ((1048576 : Int) < (len : Int)) = false := by simp; omega
  go_enter Tryz.func4, Tryz.ntmps4
  go_upto_region 4 with (first | (go_at_call 6; (with_reducible refine (drawMeterRead_any A len cap _ hby).mono ?_); rintro e V ⟨xs, m, v, rfl, ⟨hOA, hxl⟩, hBV⟩))
  obtain ⟨A1, c1, rfl, hS⟩ := hOA.frs
  obtain ⟨m1, hm1⟩ : ∃ n, n = xs.length := ⟨_, rfl⟩
  rw [← hm1] at hS hxl ⊢
  obtain ⟨b4, hb4⟩ : ∃ b, b = V.heap.size := ⟨_, rfl⟩
  obtain ⟨W3, hW3, hM, hB, hS3⟩ : ∃ W, W = V.alloc (.cells #[.int .i64 m.a.re, .int .i64 m.a.im, .int .i64 m.a.den, .int .i64 m.b.re, .int .i64 m.b.im, .int .i64 m.b.den, .int .i64 m.c.re, .int .i64 m.c.im, .int .i64 m.c.den, .int .i64 m.d.re, .int .i64 m.d.im, .int .i64 m.d.den] 28) ∧ Blk W b4 (mtc m) 28 ∧ Below w.heap.size w W ∧ Sas A1 m1 c1 xs W := ⟨_, rfl, by rw [hb4]; exact heap_alloc_last V _, hBV.alloc hBV.size _, hS.below ((Below.refl _ _).alloc (Nat.le_refl _) _)⟩
  rw [← hW3, ← hb4]
  have HXL := Lib.hid hm1
  clear hW3 hb4 hS hBV hOA hm1
  have hS := hS3
  clear hS3
  obtain ⟨rs, ok, hq⟩ : ∃ rs ok, (readM xs m).getD [] = rs ∧ (readM xs m).isSome = ok := ⟨_, _, rfl, rfl⟩
  have hrl : rs.length ≤ 16 := by rw [← hq.1]; exact read_lenT
  have HC := Lib.hid hq
  clear hq
  obtain ⟨p0, p1, p2, p3, p4, p5, p6, p7, p8, p9, p10, p11⟩ := blk_m hM
  go_upto_region 5 with (first | (go_at_call 7; (with_reducible refine (readT A1 m1 c1 xs m rs ok _ hS (hGO.below hB) (hGZ.below hB) (hGT.below hB) HC).mono ?_); rintro e w4 ⟨v5, rfl, O5, hb⟩))
  clear p0 p1 p2 p3 p4 p5 p6 p7 p8 p9 p10 p11
  have hM := (hb.block _ (blk_lt hM)).trans hM
  have hS := hS.below hb
  have hB : Below w.heap.size w w4 := bstep hB hb hB.size
  clear hb
  obtain ⟨p0, p1, p2, p3, p4, p5, p6, p7, p8, p9, p10, p11⟩ := blk_m hM
  go_upto_region 6 with (first | (go_at_call 8; (with_reducible refine (sreadT A1 m1 c1 xs m rs ok _ hS HC).mono ?_); rintro e w5 ⟨v7, rfl, O7, hb⟩))
  clear p0 p1 p2 p3 p4 p5 p6 p7 p8 p9 p10 p11
  have hM := (hb.block _ (blk_lt hM)).trans hM
  have hS := hS.below hb
  have hB : Below w.heap.size w w5 := bstep hB hb hB.size
  have O5 := O5.below hb
  clear hb
  obtain ⟨A5, c5, rfl, hF5⟩ := O5.frs
  obtain ⟨A7, c7, rfl, hF7⟩ := O7.frs
  obtain ⟨n1, hn1⟩ : ∃ n, n = rs.length := ⟨_, rfl⟩
  rw [← hn1] at hrl hF5 hF7 ⊢
  have HN := Lib.hid hn1
  clear hn1 O5 O7
  cases hk : ok
  · go_wp2_with (first | (go_at_call 9; (with_reducible refine (sameFrs_refl A5 A7 n1 c5 c7 rs _ hF5 hF7).mono ?_); rintro e w6 ⟨rfl, hb⟩; have hF5 := hF5.below hb; have hF7 := hF7.below hb; have hS := hS.below hb; have hM := (hb.block _ (blk_lt hM)).trans hM; have hB := bstep hB hb hB.size; clear hb))
    go_ret
    exact ⟨rfl, by exact below_⟩
  have hrd : readM xs m = some rs := by
    obtain ⟨h1, h2⟩ := HC.out
    rw [hk] at h2
    obtain ⟨x, hx⟩ := Option.isSome_iff_exists.1 h2
    rw [hx, Option.getD_some] at h1
    rw [hx, h1]
  have HRD := Lib.hid hrd
  clear hrd hk HC
  by_cases hm4 : m1 = 4
  · subst hm4
    cases hg : goodM xs
    · have HG := Lib.hid hg
      clear hg
      go_wp2_with (first | (go_at_call 9; (with_reducible refine (sameFrs_refl A5 A7 n1 c5 c7 rs _ hF5 hF7).mono ?_); rintro e w6 ⟨rfl, hb⟩; have hF5 := hF5.below hb; have hF7 := hF7.below hb; have hS := hS.below hb; have hM := (hb.block _ (blk_lt hM)).trans hM; have hB := bstep hB hb hB.size; clear hb) | (go_at_call 15; (with_reducible refine (good_U A1 4 c1 xs _ hS (hGO.below hB) (hGZ.below hB) (hGT.below hB) false HG).mono ?_); rintro e w8 ⟨rfl, hb⟩; have hB := bstep hB hb hB.size; clear hb))
      go_ret
      exact ⟨rfl, by exact below_⟩
    have HG := Lib.hid hg
    clear hg
    obtain ⟨q, ok2, hq⟩ := arrV_form (solM xs rs)
    have HQ := Lib.hid hq
    clear hq
    go_upto_region 10 with (first | (go_at_call 9; (with_reducible refine (sameFrs_refl A5 A7 n1 c5 c7 rs _ hF5 hF7).mono ?_); rintro e w6 ⟨rfl, hb⟩; have hF5 := hF5.below hb; have hF7 := hF7.below hb; have hS := hS.below hb; have hM := (hb.block _ (blk_lt hM)).trans hM; have hB := bstep hB hb hB.size; clear hb) | (go_at_call 15; (with_reducible refine (good_U A1 4 c1 xs _ hS (hGO.below hB) (hGZ.below hB) (hGT.below hB) true HG).mono ?_); rintro e w8 ⟨rfl, hb⟩; have hF5 := hF5.below hb; have hS := hS.below hb; have hM := (hb.block _ (blk_lt hM)).trans hM; have hB := bstep hB hb hB.size; clear hb))
    go_upto_region 11 with (first | (go_at_call 16; (with_reducible refine (msolve_U A1 4 c1 xs A5 n1 c5 rs q ok2 _ hS hF5 (hGO.below hB) (hGZ.below hB) (hGT.below hB) HQ).mono ?_); rintro e w9 ⟨rfl, hb⟩))
    obtain ⟨b9, hb9⟩ : ∃ b, b = w9.heap.size := ⟨_, rfl⟩
    obtain ⟨W9, hW9, hQ9, hM9, hB9⟩ : ∃ W, W = w9.alloc (.cells #[.int .i64 q.a.re, .int .i64 q.a.im, .int .i64 q.a.den, .int .i64 q.b.re, .int .i64 q.b.im, .int .i64 q.b.den, .int .i64 q.c.re, .int .i64 q.c.im, .int .i64 q.c.den, .int .i64 q.d.re, .int .i64 q.d.im, .int .i64 q.d.den] 28) ∧ Blk W b9 (mtc q) 28 ∧ Blk W b4 (mtc m) 28 ∧ Below w.heap.size w W := by
      have h9 : Below w.heap.size w w9 := bstep hB hb hB.size
      exact ⟨_, rfl, by rw [hb9]; exact heap_alloc_last w9 _, (Below.heap_alloc _ _ _ (by have := hb.size; have := blk_lt hM; omega)).trans ((hb.block _ (blk_lt hM)).trans hM), h9.alloc h9.size _⟩
    rw [← hW9, ← hb9]
    clear hW9 hb9 hb hS hF5 hF7 hM hB
    cases hk2 : ok2
    · go_wp2
      go_ret
      exact ⟨rfl, by exact below_⟩
    · have hs : solM xs rs = some (row4 q) := arrV_someU (hk2 ▸ HQ.out)
      obtain rfl : q = m := row4_inj (solved_law HRD.out hs)
      clear hs hk2 HQ
      obtain ⟨p0, p1, p2, p3, p4, p5, p6, p7, p8, p9, p10, p11⟩ := blk_m hQ9
      obtain ⟨q0, q1, q2, q3, q4, q5, q6, q7, q8, q9, q10, q11⟩ := blk_m hM9
      go_wp2
      go_ret
      exact ⟨rfl, by exact below_⟩
  · have hmi : ¬ ((m1 : Int) = 4) := by omega
    have hmb : ((m1 : Int) == 4) = false := by simpa using hmi
    go_wp2_with (first | (go_at_call 9; (with_reducible refine (sameFrs_refl A5 A7 n1 c5 c7 rs _ hF5 hF7).mono ?_); rintro e w6 ⟨rfl, hb⟩; have hF5 := hF5.below hb; have hF7 := hF7.below hb; have hS := hS.below hb; have hM := (hb.block _ (blk_lt hM)).trans hM; have hB := bstep hB hb hB.size; clear hb))
    go_ret
    exact ⟨rfl, by exact below_⟩
end
end
section
open Go.ChangeShapes Go.WideShapes Go.ChangeAt Go.RowKit Go.WideElems
namespace fnSolved
set_option maxRecDepth 100000 in
/-- What the walk gives, for every argument and every world that holds the listed variables. -/
theorem contract (H : Type) (enc : TypeId × Value → H) (W : World) (base : Nat) (args : Array Value) (ds gs : List (DataW H)) (before : List MemPlace)
    (hval : ∀ (j : Nat) t v, Tryz.f4.params[j]? = some t → args[j]? = some v → Value.okWide Tryz.prog W .any base t v)
    (hW : DataW.Whole enc Tryz.prog Tryz.f4.params.toList Rows.fnSolvedSpec.vars false W args.toList ds gs before) (hL : laidMetH Tryz.prog Rows.fnSolvedRow.laid W) :
    Calls Tryz.prog 4 args W fun e W' => ∃ v, e = .returned v ∧ Rows.fnSolvedSpec.post enc Tryz.prog Tryz.f4 false true false false W args v W' := by
  have hW' := hW
  obtain ⟨p, q, hA0, hV, rfl, hfz, hnd⟩ := hW
  have hA : DataW.TrodAll enc Tryz.prog W 0 (fun _ => true) true Tryz.f4.params.toList args.toList ds p := hA0
  rw [Tryz.params4] at hA hval
  obtain ⟨v0, vs0, d0, ds0, p0, q0, hargs, rfl, rfl, h0, r0⟩ := trodAll_cons hA
  obtain ⟨rfl, rfl, rfl⟩ := trodAll_nil r0
  obtain rfl : args = #[v0] := by cases args; simp_all
  obtain ⟨Axs, lenxs, capxs, rfl, hbyxs⟩ := open_bytes (hval 0 22 v0 rfl rfl) h0
  rw [MakeChecks.laidMetH_plain _ _ _ (by kernel_rfl)] at hL
  obtain ⟨_, ⟨g0, t0, cs0, f0, pp0, qq0, hg0, ht0, hv0, hd0, ⟨g1, t1, cs1, f1, pp1, qq1, hg1, ht1, hv1, hd1, ⟨g2, t2, cs2, f2, pp2, qq2, hg2, ht2, hv2, hd2, _, _⟩, _⟩, _⟩, _, _⟩ := hL
  have hGZ : GZ W := gv_zero hg0 ht0 hv0 hd0
  have hGO : GO W := gv_one hg1 ht1 hv1 hd1
  have hGT : GT W := gv_turns hg2 ht2 hv2 hd2
  have hgs : gs.length = 3 := trodVars_length hV
  obtain ⟨y0, y1, y2, rfl⟩ : ∃ y0 y1 y2, gs = [y0, y1, y2] := by
    match gs, hgs with
    | [y0, y1, y2], _ => exact ⟨y0, y1, y2, rfl⟩
  have hp : ∀ t ∈ Tryz.f4.params.toList, Tryz.prog.readableRec t = true ∧ t < Tryz.prog.types.size := by
      rw [Tryz.params4]
      intro t ht
      have hm : t ∈ [22] := by simpa using ht
      have hall : ([22].all fun u => Tryz.prog.readableRec u && decide (u < Tryz.prog.types.size)) = true := by kernel_rfl
      have := List.all_eq_true.1 hall t hm
      simpa using this
  have hvv : ∀ n ∈ Rows.fnSolvedSpec.vars, ∀ g t, Tryz.prog.globalNamed n = some g → (Tryz.prog.globals[g]?).map (·.type) = some t → Tryz.prog.readableRec t = true ∧ t < Tryz.prog.types.size := by
      intro n hn g t hg ht
      simp only [Rows.fnSolvedSpec, List.mem_cons, List.not_mem_nil, or_false] at hn
      rcases hn with rfl | rfl | rfl
      · exact gr_one g t hg ht
      · exact gr_zero g t hg ht
      · exact gr_turns g t hg ht
  refine (fnSolved_walk Axs lenxs capxs W hbyxs hGO hGZ hGT).mono fun e W' ⟨he, hb⟩ => ?_
  subst he
  exact ⟨_, rfl, post_true hW' hb (by kernel_rfl) hp hvv rfl rfl rfl⟩
/-- A world for the witness: the settled one, the listed variables holding what their initialisers lay. -/
noncomputable def laidWorld (os : Os) : World := { World.holding Tryz.prog os ⟨#[], #[], []⟩ with heap := ((((World.holding Tryz.prog os ⟨#[], #[], []⟩).heap.modify 1 fun | .cells _ t frozen => .cells #[.int .i64 0, .int .i64 0, .int .i64 1] t frozen | o => o).modify 0 fun | .cells _ t frozen => .cells #[.int .i64 1, .int .i64 0, .int .i64 1] t frozen | o => o).modify 2 fun | .cells _ t frozen => .cells #[.int .i64 1, .int .i64 0, .int .i64 1, .int .i64 0, .int .i64 1, .int .i64 1, .int .i64 (-1), .int .i64 0, .int .i64 1, .int .i64 0, .int .i64 (-1), .int .i64 1] t frozen | o => o) }
theorem laid_met (os : Os) : laidMet Tryz.prog Rows.fnSolvedRow.laid ((laidWorld os).forCall (fun _ _ => 0) ⟨#[], #[.slice none 0 0], []⟩).memory :=
  laidMet_of_run' 8 (by kernel_rfl) (by kernel_rfl)
theorem reads (os : Os) {H : Type} (enc : TypeId × Value → H) : DataW.whole enc Tryz.prog ((laidWorld os).forCall (fun _ _ => 0) ⟨#[], #[.slice none 0 0], []⟩).memory Tryz.f4.params.toList Rows.fnSolvedSpec.vars false (#[.slice none 0 0] : Array Value).toList 8 = some ([.nil], [.agg [.lit (.int .i64 1), .lit (.int .i64 0), .lit (.int .i64 1)], .agg [.lit (.int .i64 0), .lit (.int .i64 0), .lit (.int .i64 1)], .agg [.agg [.lit (.int .i64 1), .lit (.int .i64 0), .lit (.int .i64 1)], .agg [.lit (.int .i64 0), .lit (.int .i64 1), .lit (.int .i64 1)], .agg [.lit (.int .i64 (-1)), .lit (.int .i64 0), .lit (.int .i64 1)], .agg [.lit (.int .i64 0), .lit (.int .i64 (-1)), .lit (.int .i64 1)]]], [.cell 0 0, .cell 0 1, .cell 0 2, .cell 1 0, .cell 1 1, .cell 1 2, .cell 2 0, .cell 2 1, .cell 2 2, .cell 2 3, .cell 2 4, .cell 2 5, .cell 2 6, .cell 2 7, .cell 2 8, .cell 2 9, .cell 2 10, .cell 2 11]) := by kernel_rfl
set_option maxRecDepth 100000 in
theorem lifted (os : Os) (started : os.Started) (H : Type) (enc : TypeId × Value → H) (F : Stop.Interp) :
    ReturnsInHanded {} Tryz.checked os 4 .any ((OpenSpec.ofChange Rows.fnSolvedSpec).preRow enc Tryz.prog Tryz.f4 Rows.fnSolvedRow.domain false Rows.fnSolvedRow.laid) (((OpenSpec.ofChange Rows.fnSolvedSpec).at F).post enc Tryz.prog Tryz.f4 false true false false) := by
  refine returnsInHanded_of_row (C := Tryz.checked) (s := OpenSpec.ofChange Rows.fnSolvedSpec) own started (by kernel_rfl) Tryz.func4
    (witness_row_at (enc := enc) (C := Tryz.checked) false (laidWorld os) #[.slice none 0 0] rfl (by kernel_rfl) (by kernel_rfl) (by kernel_rfl)
      (OpenSpec.preRow_of_cond 8 (reads os enc) (by kernel_rfl) (fun k hk => by cases hk) (by kernel_rfl) (laid_met os))) ?_
  intro W base args ds gs before hval hW _ _ _ hL _ _
  exact contract H enc W base args ds gs before hval hW hL
theorem said : Rows.FnSolvedSaid :=
  OpenClaim.holds_of_cond 4 Tryz.f4 rfl rfl rfl rfl rfl rfl rfl ⟨rfl, rfl, rfl, rfl, rfl⟩ rfl rfl rfl rfl rfl (by kernel_rfl) Tryz.func4 (by kernel_rfl)
    (of_decide_eq_true (by kernel_rfl)) (by unfold Func.isWrapper; first | (rw [if_pos (by decide +kernel)]; kernel_rfl) | (rw [if_neg (by decide +kernel)]; exact ⟨rfl, rfl⟩))
    (fun os started H enc _ F => by rw [OpenClaim.pre_eq_preRow]; exact lifted os started H enc F)
theorem plain (f : FuncId) (fn : Func) (hf : Tryz.pinned.checked.prog.funcNamed "loop.example/polarisedlight/laws.FnSolved" = some f) (hfn : Tryz.pinned.checked.prog.funcs[f]? = some fn) :
    false = Tryz.pinned.checked.prog.looks [] ∧ ∀ (j : Nat) t, fn.params[j]? = some t → Tryz.pinned.checked.prog.wantsStandIn t = false := by
  obtain rfl : f = 4 := Option.some.inj ((show Tryz.prog.funcNamed "loop.example/polarisedlight/laws.FnSolved" = some 4 by kernel_rfl).symm.trans hf) |>.symm
  obtain rfl : fn = Tryz.f4 := (Option.some.inj (Tryz.func4.symm.trans hfn)).symm
  refine ⟨by kernel_rfl, fun j t ht => ?_⟩
  rw [Tryz.params4] at ht
  have hm : t ∈ [22] := by simpa using Array.mem_of_getElem? ht
  have hall : ([22].all fun u => !Tryz.prog.wantsStandIn u) = true := by kernel_rfl
  exact (show Tryz.prog.wantsStandIn t = false by simpa using List.all_eq_true.1 hall t hm)
/-- The card of the law: its row holds, and what it lists is tied to the program's text. -/
theorem card : Rows.FnSolvedCardSaid :=
  Claim7.holds_tied_plain_at .later [] _ _ _ _ said (fun _ h => by cases h) (by kernel_rfl) (fun _ h => by cases h) fnSolved_row_tie rfl ⟨rfl, rfl⟩ (by kernel_rfl) rfl plain (by kernel_rfl)
end fnSolved
end
end Go.Proofs.YtodhbkinbcemnaaGreatDoor
