/-
  The walk of FnGood: it returns true, for all codes.
-/
import Derived.Test.YtalcjmefmffcnaaDoorUs
import Derived.Test.YtalcjmefmffcnaaDoorUv
import Derived.Test.YtalcjmefmffcnaaDoorTy
namespace Go.Proofs.YtalcjmefmffcnaaDoor
set_option linter.unusedSimpArgs false
set_option linter.unusedVariables false
open Go.RowKit
attribute [local go_sem ↓] Go.wp_at_zero Go.wp_at_succ
theorem rev_next {xs : List Sta} (h : xs.length = 4) {j : Nat} {s : Sta} (hs : xs[j]? = some s) : xs.reverse.take (4 - j) = xs.reverse.take (4 - (j + 1)) ++ [s] := by
  have hj := (List.getElem?_eq_some_iff.1 hs).1
  obtain ⟨a, b, c, d, rfl⟩ := list4 h
  match j, hj, hs with
  | 0, _, hs => obtain rfl := Option.some.inj hs; rfl
  | 1, _, hs => obtain rfl := Option.some.inj hs; rfl
  | 2, _, hs => obtain rfl := Option.some.inj hs; rfl
  | 3, _, hs => obtain rfl := Option.some.inj hs; rfl
theorem good_rev_l {xs : List Sta} (hg : goodM xs = true) {f : Fr} (hd : frb (detM xs.reverse) = .tuple #[frv f, .bool true]) : goodM xs.reverse = true := by
  obtain ⟨v, s0, s1, s2, s3, -, -, rfl⟩ := good_some hg
  cases h : detM [s3, s2, s1, s0] with
  | none => rw [show [s0, s1, s2, s3].reverse = [s3, s2, s1, s0] from rfl, h] at hd; simp [frb] at hd
  | some x => exact good_rev hg h
theorem sta_ne {s t : Sta} (h : s ≠ t) : (s.p == t.p && s.q == t.q) = false := by
  rw [Bool.eq_false_iff]
  intro e
  simp only [Bool.and_eq_true, beq_iff_eq] at e
  obtain ⟨a, b⟩ := s
  obtain ⟨c, d⟩ := t
  simp only at e
  exact h (by rw [e.1, e.2])
set_option maxRecDepth 100000 in
set_option maxHeartbeats 8000000 in
theorem fnGood_walk (A : Option Addr) (len cap : Nat) (w : World) (hby : Bytes A len cap w) (hGO : GO w) (hGZ : GZ w) (hGT : GT w) :
    Calls Tryd.prog 7 #[.slice A len cap] w fun e w' => e = .returned (.bool true) ∧ Below w.heap.size w w' := by
  have hcap := hby.2.1
  have hlc := hby.1
  by_cases hbig : 1048576 < len
  · have hd : decide ((1048576 : Int) < (len : Int)) = true := by simp; omega
    go_enter Tryd.func7, Tryd.ntmps7
    go_wp2
    go_ret
    exact ⟨rfl, by exact below_⟩
  have hd : decide ((1048576 : Int) < (len : Int)) = false := by simp; omega
  go_enter Tryd.func7, Tryd.ntmps7
  go_wp2_with (go_at_call 27; (with_reducible refine (drawMeterGood_any A len cap _ hby).mono ?_); rintro e w1 ⟨xs, v, rfl, ⟨hO, hxl⟩, hB⟩; refine Hid.out ?_)
  refine Lib.hid ?_
  obtain ⟨A2, c2, rfl, hS⟩ := hO.frs
  obtain ⟨ok, hq⟩ : ∃ ok, goodM xs = ok := ⟨_, rfl⟩
  have HC := Lib.hid hq
  clear hq hO
  obtain ⟨m, hm⟩ : ∃ m, m = xs.length := ⟨_, rfl⟩
  rw [← hm] at hS hxl ⊢
  have HM := Lib.hid hm
  clear hm
  go_wp2_with (go_at_call 28; (with_reducible refine (good_any_m A2 m c2 xs _ hS (hGO.below hB) (hGZ.below hB) (hGT.below hB) ok HC).mono ?_); rintro e w2 ⟨rfl, hb⟩; refine Hid.out ?_)
  refine Lib.hid ?_
  have hS2 := hS.below hb
  have hB2 : Below w.heap.size w w2 := bstep hB hb hB.size
  clear hb hS hB
  go_wp2_with (go_at_call 29; (with_reducible refine (sgood_any_m A2 m c2 xs _ hS2 ok HC).mono ?_); rintro e w3 ⟨rfl, hb⟩; refine Hid.out ?_)
  refine Lib.hid ?_
  have hS := hS2.below hb
  have hB : Below w.heap.size w w3 := bstep hB2 hb hB2.size
  clear hb hS2 hB2
  cases hk : ok
  · go_wp2
    go_ret
    exact ⟨rfl, by exact below_⟩
  have hg : goodM xs = true := HC.out.trans hk
  obtain rfl : m = 4 := by
    obtain ⟨v0, s0, s1, s2, s3, -, -, hx⟩ := good_some hg
    rw [HM.out, hx]; rfl
  have HG := Lib.hid hg
  have hcap2 := hS.2.1
  have hcap3 := hS.2.2.1
  clear hg hk HC hxl
  have hO0 := OwA.made w3 w3.heap.size (Nat.le_refl _)
  have hB0 : Below w3.heap.size w3 (w3.alloc (.cells #[] 29)) := (Below.refl _ _).alloc (Nat.le_refl _) _
  go_wp2
  go_loopw [6, 7] (fun v i wr => ∃ m : Nat, m ≤ 4 ∧ i = .int .i64 ((m : Int) - 1) ∧ OwA w3.heap.size v (xs.reverse.take (4 - m)) wr ∧ Below w3.heap.size w3 wr) (fun _ i _ => (intOf i + 1).toNat)
  case atStart => exact ⟨4, Nat.le_refl _, by go_num, (by simpa using hO0), hB0⟩
  case round =>
    clear hO0 hB0
    rename World => wo
    obtain ⟨m, hm, rfl, hO, hBo⟩ := hrel
    by_cases hm0 : 0 < m
    · obtain ⟨j, rfl⟩ : ∃ j, m = j + 1 := ⟨m - 1, by omega⟩
      have hj : ((j + 1 : Nat) : Int) - 1 = (j : Int) := by omega
      have hj4 : (j : Int) < 4 := by omega
      have hj0 : (0 : Int) ≤ (j : Int) := by omega
      obtain ⟨b1, o1, s, rfl, hlt1, hs1, c0, c1⟩ := hS.at hBo (show j < 4 by omega)
      have HNX := Lib.hid (rev_next HM.out.symm hs1)
      have hzo := hBo.size
      have hln : (xs.reverse.take (4 - (j + 1))).length < 4000000 := by rw [List.length_take]; omega
      rw [hj]
      clear hs1 hj
      go_wp2_with (at_builtin; refine append_sta rfl (.tmp 39) (.tmp 44) rfl w3.heap.size _ _ _ (by rfl) hO s (by rfl) hln hzo ?_; intro v2 w4 hO4 hg4; refine Hid.out ?_)
      refine Lib.hid ?_
      have hB4 : Below w3.heap.size w3 w4 := below_ownA hBo hO (Nat.le_refl _) hg4
      clear hg4 hO hBo c0 c1
      go_wp2
      go_roundw
      case rel => exact ⟨j, by omega, by go_num, by rw [HNX.out]; exact hO4, hB4⟩
      case measure => first | (simp [intOf]; done) | (simp [intOf]; omega)
    · obtain rfl : m = 0 := by omega
      have h44 : xs.reverse.take (4 - 0) = xs.reverse := List.take_of_length_le (by rw [List.length_reverse, ← HM.out]; exact Nat.le_refl 4)
      rw [h44] at hO
      clear h44
      have hO5 := hO
      clear hO
      obtain ⟨A5, c5, rfl, hT⟩ := hO5.frs
      have hl5 : xs.reverse.length = 4 := by rw [List.length_reverse]; exact HM.out.symm
      rw [hl5] at hT ⊢
      obtain ⟨f, p, hq⟩ : ∃ f p, frb (detM xs.reverse) = .tuple #[frv f, .bool p] := ⟨_, _, rfl⟩
      have HC := Lib.hid hq
      have hBw : Below w.heap.size w wo := bstep hB hBo hB.size
      have hSo := hS.below hBo
      clear hq hl5 hO5 hBo
      go_upto_region 14 with (go_at_call 25; (with_reducible refine (det_any_m A5 4 c5 xs.reverse _ hT (hGO.below hBw) (hGZ.below hBw) (hGT.below hBw) f p HC).mono ?_); rintro e w5 ⟨rfl, hb⟩)
      have hB6 : Below w.heap.size w (w5.alloc (.cells #[.int .i64 f.re, .int .i64 f.im, .int .i64 f.den] 25)) := by
        have h9 : Below w.heap.size w w5 := bstep hBw hb hBw.size
        exact h9.alloc h9.size _
      have hx6 : Below wo.heap.size wo (w5.alloc (.cells #[.int .i64 f.re, .int .i64 f.im, .int .i64 f.den] 25)) := hb.alloc hb.size _
      obtain ⟨W6, hW6⟩ : ∃ W, W = w5.alloc (.cells #[.int .i64 f.re, .int .i64 f.im, .int .i64 f.den] 25) := ⟨_, rfl⟩
      rw [← hW6] at hB6 hx6 ⊢
      have hS6 := hSo.below hx6
      have hT6 := hT.below hx6
      clear hW6 hb hx6 hSo hT hBw hS hB
      go_wp2
      go_loopw [10, 11] (fun i _ wr => ∃ n : Nat, n ≤ 4 ∧ i = .int .i64 n ∧ Below W6.heap.size W6 wr) (fun i _ _ => 4 - (intOf i).toNat)
      case atStart => exact ⟨0, Nat.zero_le _, rfl, Below.refl _ _⟩
      case round =>
        rename World => wp
        obtain ⟨n, hn, rfl, hBp⟩ := hrel
        by_cases hn4 : n < 4
        · have hni : (n : Int) < 4 := by omega
          go_wp2
          go_loopw [11] (fun k wr => ∃ l : Nat, l ≤ n ∧ k = .int .i64 l ∧ Below W6.heap.size W6 wr) (fun k _ => n - (intOf k).toNat)
          case atStart => exact ⟨0, Nat.zero_le _, rfl, hBp⟩
          case round =>
            clear hBp
            rename World => wq
            obtain ⟨l, hl, rfl, hBq⟩ := hrel
            by_cases hln : l < n
            · have hli : (l : Int) < (n : Int) := by omega
              have hl4 : (l : Int) < 4 := by omega
              obtain ⟨b1, o1, s, e1, hlt1, hs1, c0, c1⟩ := hS6.at hBq hn4
              obtain ⟨b2, o2, t, e2, hlt2, ht1, d0, d1⟩ := hS6.at hBq (show l < 4 by omega)
              have hne := sta_ne (good_apart HG.out hs1 ht1 hln)
              subst e1
              simp only [Option.some.injEq, Addr.mk.injEq, and_true] at e2
              obtain ⟨rfl, rfl⟩ := e2
              clear hs1 ht1
              cases hp : (s.p == t.p)
              · go_upto_region 20 with fail
                go_quiet (fail)
                go_wp2
                go_roundw
                case rel => exact ⟨l + 1, by omega, by go_num, by exact below_⟩
                case measure => first | (simp [intOf]; done) | (simp [intOf]; omega)
              · have hq : (s.q == t.q) = false := by rw [hp] at hne; simpa using hne
                go_upto_region 20 with fail
                go_quiet (fail)
                go_wp2
                go_roundw
                case rel => exact ⟨l + 1, by omega, by go_num, by exact below_⟩
                case measure => first | (simp [intOf]; done) | (simp [intOf]; omega)
            · obtain rfl : l = n := by omega
              go_wp2
              go_roundw
              case rel => exact ⟨l + 1, by omega, by go_num, hBq⟩
              case measure => first | (simp [intOf]; done) | (simp [intOf]; omega)
        · obtain rfl : n = 4 := by omega
          have hBz : Below w.heap.size w wp := bstep hB6 hBp hB6.size
          have hTz := hT6.below hBp
          cases hp : p
          · go_wp2
            go_ret
            exact ⟨rfl, by exact below_⟩
          · have hgr := good_rev_l HG.out (hp ▸ HC.out)
            have HGR := Lib.hid hgr
            clear hgr
            go_wp2_with (go_at_call 28; (with_reducible refine (good_any_m A5 4 c5 xs.reverse _ hTz (hGO.below hBz) (hGZ.below hBz) (hGT.below hBz) true HGR).mono ?_); rintro e w7 ⟨rfl, hb⟩; have hB7 : Below w.heap.size w w7 := bstep hBz hb hBz.size; clear hb)
            go_ret
            exact ⟨rfl, by exact below_⟩
end Go.Proofs.YtalcjmefmffcnaaDoor
