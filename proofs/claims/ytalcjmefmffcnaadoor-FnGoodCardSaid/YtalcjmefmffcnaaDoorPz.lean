/-
  Texts of this claim, joined: Uw; Ux. Nothing is claimed here; the other texts of this claim use it.
-/
import Derived.Test.YtalcjmefmffcnaaDoorUs
import Derived.Test.YtalcjmefmffcnaaDoorPn
import Derived.Test.YtalcjmefmffcnaaDoorTy
namespace Go.Proofs.YtalcjmefmffcnaaDoor
set_option linter.unusedSimpArgs false
set_option linter.unusedVariables false
section
open Go.RowKit
attribute [local go_sem ↓] Go.wp_at_zero Go.wp_at_succ
theorem rev_next {xs : List Sta} (h : xs.length = 4) {j : Nat} {s : Sta} (hs : xs[j]? = some s) : xs.reverse.take (4 - j) = xs.reverse.take (4 - (j + 1)) ++ [s] := by
  have hj := (List.getElem?_eq_some_iff.1 hs).1
  obtain ⟨a, b, c, d, rfl⟩ := list4 h
  match j, hj, hs with
  | 0, _, hs => obtain rfl := Option.some.inj hs; rfl
  | 1, _, hs => obtain rfl := Option.some.inj hs; rfl
  | 2, _, hs => obtain rfl := Option.some.inj hs; rfl
  | 3, _, hs => obtain rfl := Option.some.inj hs; rfl
theorem good_rev_l {xs : List Sta} (hg : goodM xs = true) {f : Fr} (hd : frb (detM xs.reverse) = .tuple #[frv f, .bool true]) : goodM xs.reverse = true := by
  obtain ⟨v, s0, s1, s2, s3, -, -, rfl⟩ := good_some hg
  cases h : detM [s3, s2, s1, s0] with
  | none => rw [show [s0, s1, s2, s3].reverse = [s3, s2, s1, s0] from rfl, h] at hd; simp [frb] at hd
  | some x => exact good_rev hg h
theorem sta_ne {s t : Sta} (h : s ≠ t) : (s.p == t.p && s.q == t.q) = false := by
  rw [Bool.eq_false_iff]
  intro e
  simp only [Bool.and_eq_true, beq_iff_eq] at e
  obtain ⟨a, b⟩ := s
  obtain ⟨c, d⟩ := t
  simp only at e
  exact h (by rw [e.1, e.2])
set_option maxRecDepth 100000 in
set_option maxHeartbeats 8000000 in
theorem fnGood_walk (A : Option Addr) (len cap : Nat) (w : World) (hby : Bytes A len cap w) (hGO : GO w) (hGZ : GZ w) (hGT : GT w) :
    Calls Tryd.prog 7 #[.slice A len cap] w fun e w' => e = .returned (.bool true) ∧ Below w.heap.size w w' := by
  have hcap := hby.2.1
  have hlc := hby.1
  by_cases hbig : 1048576 < len
  · have hd : decide ((1048576 : Int) < (len : Int)) = true := by simp; omega
    go_enter Tryd.func7, Tryd.ntmps7
    go_wp2
    go_ret
    exact ⟨rfl, by exact below_⟩
  have hd : decide ((1048576 : Int) < (len : Int)) = false := by simp; omega
  go_enter Tryd.func7, Tryd.ntmps7
  go_wp2_with (go_at_call 27; (with_reducible refine (drawMeterGood_any A len cap _ hby).mono ?_); rintro e w1 ⟨xs, v, rfl, ⟨hO, hxl⟩, hB⟩; refine Hid.out ?_)
  refine Lib.hid ?_
  obtain ⟨A2, c2, rfl, hS⟩ := hO.frs
  obtain ⟨ok, hq⟩ : ∃ ok, goodM xs = ok := ⟨_, rfl⟩
  have HC := Lib.hid hq
  clear hq hO
  obtain ⟨m, hm⟩ : ∃ m, m = xs.length := ⟨_, rfl⟩
  rw [← hm] at hS hxl ⊢
  have HM := Lib.hid hm
  clear hm
  go_wp2_with (go_at_call 28; (with_reducible refine (good_any_m A2 m c2 xs _ hS (hGO.below hB) (hGZ.below hB) (hGT.below hB) ok HC).mono ?_); rintro e w2 ⟨rfl, hb⟩; refine Hid.out ?_)
  refine Lib.hid ?_
  have hS2 := hS.below hb
  have hB2 : Below w.heap.size w w2 := bstep hB hb hB.size
  clear hb hS hB
  go_wp2_with (go_at_call 29; (with_reducible refine (sgood_any_m A2 m c2 xs _ hS2 ok HC).mono ?_); rintro e w3 ⟨rfl, hb⟩; refine Hid.out ?_)
  refine Lib.hid ?_
  have hS := hS2.below hb
  have hB : Below w.heap.size w w3 := bstep hB2 hb hB2.size
  clear hb hS2 hB2
  cases hk : ok
  · go_wp2
    go_ret
    exact ⟨rfl, by exact below_⟩
  have hg : goodM xs = true := HC.out.trans hk
  obtain rfl : m = 4 := by
    obtain ⟨v0, s0, s1, s2, s3, -, -, hx⟩ := good_some hg
    rw [HM.out, hx]; rfl
  have HG := Lib.hid hg
  have hcap2 := hS.2.1
  have hcap3 := hS.2.2.1
  clear hg hk HC hxl
  have hO0 := OwA.made w3 w3.heap.size (Nat.le_refl _)
  have hB0 : Below w3.heap.size w3 (w3.alloc (.cells #[] 29)) := (Below.refl _ _).alloc (Nat.le_refl _) _
  go_wp2
  go_loopw [6, 7] (fun v i wr => ∃ m : Nat, m ≤ 4 ∧ i = .int .i64 ((m : Int) - 1) ∧ OwA w3.heap.size v (xs.reverse.take (4 - m)) wr ∧ Below w3.heap.size w3 wr) (fun _ i _ => (intOf i + 1).toNat)
  case atStart => exact ⟨4, Nat.le_refl _, by go_num, (by simpa using hO0), hB0⟩
  case round =>
    clear hO0 hB0
    rename World => wo
    obtain ⟨m, hm, rfl, hO, hBo⟩ := hrel
    by_cases hm0 : 0 < m
    · obtain ⟨j, rfl⟩ : ∃ j, m = j + 1 := ⟨m - 1, by omega⟩
      have hj : ((j + 1 : Nat) : Int) - 1 = (j : Int) := by omega
      have hj4 : (j : Int) < 4 := by omega
      have hj0 : (0 : Int) ≤ (j : Int) := by omega
      obtain ⟨b1, o1, s, rfl, hlt1, hs1, c0, c1⟩ := hS.at hBo (show j < 4 by omega)
      have HNX := Lib.hid (rev_next HM.out.symm hs1)
      have hzo := hBo.size
      have hln : (xs.reverse.take (4 - (j + 1))).length < 4000000 := by rw [List.length_take]; omega
      rw [hj]
      clear hs1 hj
      go_wp2_with (at_builtin; refine append_sta rfl (.tmp 39) (.tmp 44) rfl w3.heap.size _ _ _ (by rfl) hO s (by rfl) hln hzo ?_; intro v2 w4 hO4 hg4; refine Hid.out ?_)
      refine Lib.hid ?_
      have hB4 : Below w3.heap.size w3 w4 := below_ownA hBo hO (Nat.le_refl _) hg4
      clear hg4 hO hBo c0 c1
      go_wp2
      go_roundw
      case rel => exact ⟨j, by omega, by go_num, by rw [HNX.out]; exact hO4, hB4⟩
      case measure => first | (simp [intOf]; done) | (simp [intOf]; omega)
    · obtain rfl : m = 0 := by omega
      have h44 : xs.reverse.take (4 - 0) = xs.reverse := List.take_of_length_le (by rw [List.length_reverse, ← HM.out]; exact Nat.le_refl 4)
      rw [h44] at hO
      clear h44
      have hO5 := hO
      clear hO
      obtain ⟨A5, c5, rfl, hT⟩ := hO5.frs
      have hl5 : xs.reverse.length = 4 := by rw [List.length_reverse]; exact HM.out.symm
      rw [hl5] at hT ⊢
      obtain ⟨f, p, hq⟩ : ∃ f p, frb (detM xs.reverse) = .tuple #[frv f, .bool p] := ⟨_, _, rfl⟩
      have HC := Lib.hid hq
      have hBw : Below w.heap.size w wo := bstep hB hBo hB.size
      have hSo := hS.below hBo
      clear hq hl5 hO5 hBo
      go_upto_region 14 with (go_at_call 25; (with_reducible refine (det_any_m A5 4 c5 xs.reverse _ hT (hGO.below hBw) (hGZ.below hBw) (hGT.below hBw) f p HC).mono ?_); rintro e w5 ⟨rfl, hb⟩)
      have hB6 : Below w.heap.size w (w5.alloc (.cells #[.int .i64 f.re, .int .i64 f.im, .int .i64 f.den] 25)) := by
        have h9 : Below w.heap.size w w5 := bstep hBw hb hBw.size
        exact h9.alloc h9.size _
      have hx6 : Below wo.heap.size wo (w5.alloc (.cells #[.int .i64 f.re, .int .i64 f.im, .int .i64 f.den] 25)) := hb.alloc hb.size _
      obtain ⟨W6, hW6⟩ : ∃ W, W = w5.alloc (.cells #[.int .i64 f.re, .int .i64 f.im, .int .i64 f.den] 25) := ⟨_, rfl⟩
      rw [← hW6] at hB6 hx6 ⊢
      have hS6 := hSo.below hx6
      have hT6 := hT.below hx6
      clear hW6 hb hx6 hSo hT hBw hS hB
      go_wp2
      go_loopw [10, 11] (fun i _ wr => ∃ n : Nat, n ≤ 4 ∧ i = .int .i64 n ∧ Below W6.heap.size W6 wr) (fun i _ _ => 4 - (intOf i).toNat)
      case atStart => exact ⟨0, Nat.zero_le _, rfl, Below.refl _ _⟩
      case round =>
        rename World => wp
        obtain ⟨n, hn, rfl, hBp⟩ := hrel
        by_cases hn4 : n < 4
        · have hni : (n : Int) < 4 := by omega
          go_wp2
          go_loopw [11] (fun k wr => ∃ l : Nat, l ≤ n ∧ k = .int .i64 l ∧ Below W6.heap.size W6 wr) (fun k _ => n - (intOf k).toNat)
          case atStart => exact ⟨0, Nat.zero_le _, rfl, hBp⟩
          case round =>
            clear hBp
            rename World => wq
            obtain ⟨l, hl, rfl, hBq⟩ := hrel
            by_cases hln : l < n
            · have hli : (l : Int) < (n : Int) := by omega
              have hl4 : (l : Int) < 4 := by omega
              obtain ⟨b1, o1, s, e1, hlt1, hs1, c0, c1⟩ := hS6.at hBq hn4
              obtain ⟨b2, o2, t, e2, hlt2, ht1, d0, d1⟩ := hS6.at hBq (show l < 4 by omega)
              have hne := sta_ne (good_apart HG.out hs1 ht1 hln)
              subst e1
              simp only [Option.some.injEq, Addr.mk.injEq, and_true] at e2
              obtain ⟨rfl, rfl⟩ := e2
              clear hs1 ht1
              cases hp : (s.p == t.p)
              · go_upto_region 20 with fail
                go_quiet (fail)
                go_wp2
                go_roundw
                case rel => exact ⟨l + 1, by omega, by go_num, by exact below_⟩
                case measure => first | (simp [intOf]; done) | (simp [intOf]; omega)
              · have hq : (s.q == t.q) = false := by rw [hp] at hne; simpa using hne
                go_upto_region 20 with fail
                go_quiet (fail)
                go_wp2
                go_roundw
                case rel => exact ⟨l + 1, by omega, by go_num, by exact below_⟩
                case measure => first | (simp [intOf]; done) | (simp [intOf]; omega)
            · obtain rfl : l = n := by omega
              go_wp2
              go_roundw
              case rel => exact ⟨l + 1, by omega, by go_num, hBq⟩
              case measure => first | (simp [intOf]; done) | (simp [intOf]; omega)
        · obtain rfl : n = 4 := by omega
          have hBz : Below w.heap.size w wp := bstep hB6 hBp hB6.size
          have hTz := hT6.below hBp
          cases hp : p
          · go_wp2
            go_ret
            exact ⟨rfl, by exact below_⟩
          · have hgr := good_rev_l HG.out (hp ▸ HC.out)
            have HGR := Lib.hid hgr
            clear hgr
            go_wp2_with (go_at_call 28; (with_reducible refine (good_any_m A5 4 c5 xs.reverse _ hTz (hGO.below hBz) (hGZ.below hBz) (hGT.below hBz) true HGR).mono ?_); rintro e w7 ⟨rfl, hb⟩; have hB7 : Below w.heap.size w w7 := bstep hBz hb hBz.size; clear hb)
            go_ret
            exact ⟨rfl, by exact below_⟩
end
section
open Go.RowKit
attribute [local go_sem ↓] Go.wp_at_zero Go.wp_at_succ
theorem wp_appA {o : Oper} {a : Act} {K : Act → World → Prop} {Q : Exit → Act → World → Prop} (s x : Operand) (ho : o.op = .call { callee := .builtin .append, args := #[s, x], argTypes := #[45, 45] })
    (base : Nat) (v : Value) (ys : List Sta) (W : World) (hs : a.eval s = v) (hO : OwA base v ys W) (A' : Option Addr) (m c : Nat) (zs : List Sta) (hx : a.eval x = .slice A' m c) (hl : zs.length = m)
    (hA : ∃ bb off : Nat, A' = some ⟨bb, off, none⟩ ∧ ∀ i z, zs[i]? = some z → PAt W bb (off + i * 2) z) (hlen : ys.length + m < 4000000) (hb : base ≤ W.heap.size)
    (h : ∀ v' w', OwA base v' (ys ++ zs) w' → W.grownBy w' v.ownBlock → (v'.ownBlock = v.ownBlock ∨ v'.ownBlock = some W.heap.size) → K (a.put o.dst v') w') : o.wp Tryd.prog a W K Q := by
  obtain ⟨bb, off, rfl, hc⟩ := hA
  obtain ⟨i0, hi, hz0, hz1, hz2⟩ := info_parts infoSa
  have hnews : ∀ j u, (rowA zs)[j]? = some u → W.cell? ((⟨bb, off, none⟩ : Addr).add j) = some u := by
    intro j u hj
    have hjl := (List.getElem?_eq_some_iff.1 hj).1
    rw [rowA_length] at hjl
    have hq : j / 2 < zs.length := by omega
    have hz : zs[j / 2]? = some (zs[j / 2]'hq) := List.getElem?_eq_getElem hq
    have hg := rowA_get zs (j / 2) _ hz (j % 2) (Nat.mod_lt _ (by omega))
    rw [show j / 2 * 2 + j % 2 = j by omega, hj] at hg
    obtain ⟨k0, k1⟩ := hc _ _ hz
    have hadd : (⟨bb, off, none⟩ : Addr).add j = ⟨bb, off + j, none⟩ := by unfold Addr.add; split <;> simp_all
    rw [hadd]
    have h3 : j % 2 = 0 ∨ j % 2 = 1 := by omega
    rcases h3 with h3 | h3 <;> rw [h3] at hg <;> simp only [staL, List.getElem?_cons_zero, List.getElem?_cons_succ] at hg <;> rw [hg]
    · exact (congrArg (fun o => W.cell? ⟨bb, o, none⟩) (by omega)).trans k0
    · exact (congrArg (fun o => W.cell? ⟨bb, o, none⟩) (by omega)).trans k1
  obtain ⟨v', w', hr, h2, h3, h4, h5⟩ := run_append_own_at (P := Tryd.prog) W base 45 o.type 29 i0 (.agg #[.int .i64 0, .int .i64 0]) 2 16 Tryd.underlying45 hi hz0 hz1 hz2 rfl (by decide) v ys.length (rowA ys) hO ⟨bb, off, none⟩ m c (rowA zs) (by rw [rowA_length, hl]) hnews (rowA_one' zs) (by unfold maxLen; omega) (by omega) hb
  unfold Oper.wp execOp
  simp only [ho, resolve, invoke, builtin, Sem.run_bind, Sem.run_pure, Result.andThen_ok, List.map_toArray, List.map_cons, List.map_nil, hs, hx, hr]
  refine h v' w' ?_ h3 h5
  unfold OwA
  rw [rowA_append, List.length_append, hl]
  exact h2
theorem wpList_appA {ops : Array Oper} {rest : List Oper} {o : Oper} {a : Act} {Q : Exit → Act → World → Prop} (hgd : o.guard = none) (s x : Operand) (ho : o.op = .call { callee := .builtin .append, args := #[s, x], argTypes := #[45, 45] })
    (base : Nat) (v : Value) (ys : List Sta) (W : World) (hs : a.eval s = v) (hO : OwA base v ys W) (A' : Option Addr) (m c : Nat) (zs : List Sta) (hx : a.eval x = .slice A' m c) (hl : zs.length = m)
    (hA : ∃ bb off : Nat, A' = some ⟨bb, off, none⟩ ∧ ∀ i z, zs[i]? = some z → PAt W bb (off + i * 2) z) (hlen : ys.length + m < 4000000) (hb : base ≤ W.heap.size)
    (h : ∀ v' w', OwA base v' (ys ++ zs) w' → W.grownBy w' v.ownBlock → (v'.ownBlock = v.ownBlock ∨ v'.ownBlock = some W.heap.size) → wpList Tryd.prog ops Q rest (a.put o.dst v') w') : wpList Tryd.prog ops Q (o :: rest) a W :=
  wpList_plain hgd fun _ hK => wp_appA s x ho base v ys W hs hO A' m c zs hx hl hA hlen hb fun v' w' h2 h3 h4 => hK _ _ (h v' w' h2 h3 h4)
theorem det_form {xs : List Sta} {f : Fr} (h : frb (detM xs) = .tuple #[frv f, .bool true]) : detM xs = some f := by
  cases hd : detM xs with
  | none => rw [hd] at h; simp [frb] at h
  | some x =>
    rw [hd] at h
    obtain ⟨a, b, c⟩ := x
    obtain ⟨d, e, g⟩ := f
    simp [frb] at h
    obtain ⟨rfl, rfl, rfl⟩ := h
    rfl
set_option maxRecDepth 100000 in
set_option maxHeartbeats 8000000 in
theorem fnMeterDet_walk (A : Option Addr) (len cap : Nat) (w : World) (hby : Bytes A len cap w) (hGO : GO w) (hGZ : GZ w) (hGT : GT w) :
    Calls Tryd.prog 6 #[.slice A len cap] w fun e w' => e = .returned (.bool true) ∧ Below w.heap.size w w' := by
  have hcap := hby.2.1
  have hlc := hby.1
  by_cases hbig : 1048576 < len
  · have hd : decide ((1048576 : Int) < (len : Int)) = true := by simp; omega
    go_enter Tryd.func6, Tryd.ntmps6
    go_wp2
    go_ret
    exact ⟨rfl, by exact below_⟩
  have hd : decide ((1048576 : Int) < (len : Int)) = false := by simp; omega
  go_enter Tryd.func6, Tryd.ntmps6
  go_wp2_with (go_at_call 24; (with_reducible refine (drawMeterDet_any A len cap _ hby).mono ?_); rintro e w1 ⟨xs, v, rfl, ⟨hO, hxl⟩, hB⟩; refine Hid.out ?_)
  refine Lib.hid ?_
  obtain ⟨A2, c2, rfl, hS⟩ := hO.frs
  obtain ⟨f, ok, hq⟩ : ∃ f ok, frb (detM xs) = .tuple #[frv f, .bool ok] := ⟨_, _, rfl⟩
  have HC := Lib.hid hq
  clear hq hO
  obtain ⟨m, hm⟩ : ∃ m, m = xs.length := ⟨_, rfl⟩
  rw [← hm] at hS hxl ⊢
  have HM := Lib.hid hm
  clear hm
  go_upto_region 5 with (go_at_call 25; (with_reducible refine (det_any_m A2 m c2 xs _ hS (hGO.below hB) (hGZ.below hB) (hGT.below hB) f ok HC).mono ?_); rintro e w2 ⟨rfl, hb⟩)
  obtain ⟨bf, hbf⟩ : ∃ b, b = w2.heap.size := ⟨_, rfl⟩
  obtain ⟨W2, hW2, hx2, hF2, hl2⟩ : ∃ W, W = w2.alloc (.cells #[.int .i64 f.re, .int .i64 f.im, .int .i64 f.den] 25) ∧ Below w1.heap.size w1 W ∧ Blk W bf (frc f) 25 ∧ w1.heap.size ≤ bf := by
    refine ⟨_, rfl, hb.alloc hb.size _, ?_, ?_⟩
    · rw [hbf]; exact heap_alloc_last w2 _
    · rw [hbf]; exact hb.size
  rw [← hW2, ← hbf]
  have hS2 := hS.below hx2
  have hB2 : Below w.heap.size w W2 := bstep hB hx2 hB.size
  clear hb hS hB hbf hW2 hx2
  go_upto_region 6 with (go_at_call 26; (with_reducible refine (sdet_any_m A2 m c2 xs _ hS2 f ok HC).mono ?_); rintro e w3 ⟨rfl, hb⟩)
  obtain ⟨W3, hW3, hx3⟩ : ∃ W, W = w3.alloc (.cells #[.int .i64 f.re, .int .i64 f.im, .int .i64 f.den] 25) ∧ Below W2.heap.size W2 W := ⟨_, rfl, hb.alloc hb.size _⟩
  have hG3 : Blk W3 w3.heap.size (frc f) 25 := by rw [hW3]; exact heap_alloc_last w3 _
  obtain ⟨bg, hbg⟩ : ∃ b, b = w3.heap.size := ⟨_, rfl⟩
  rw [← hbg] at hG3
  rw [← hW3, ← hbg]
  have hF3 := (hx3.block _ (blk_lt hF2)).trans hF2
  have hS3 := hS2.below hx3
  have hB3 : Below w.heap.size w W3 := bstep hB2 hx3 hB2.size
  clear hb hS2 hB2 hF2 hW3 hbg hx3
  obtain ⟨f0, f1, f2⟩ := blk_fr0 hF3
  obtain ⟨g0, g1, g2⟩ := blk_fr0 hG3
  cases hk : ok
  · go_wp2
    go_ret
    exact ⟨rfl, by exact below_⟩
  go_upto_region 8 with fail
  have hdm : detM xs = some f := det_form (hk ▸ HC.out)
  obtain ⟨rows, hrows, -, -, rv⟩ := detM_some hdm
  obtain ⟨s0, s1, s2, s3, hxs, -⟩ := rowsI_open hrows
  obtain rfl : m = 4 := by rw [HM.out, hxs]; rfl
  have hbd := fvalid_bd f (real_parts rv).1
  have him := (real_parts rv).2.1
  have HD := Lib.hid hdm
  have HXS := Lib.hid hxs
  have HIM := Lib.hid him
  have HBD := Lib.hid hbd
  have hcap2 := hS3.2.1
  have hcap3 := hS3.2.2.1
  clear hk HC hxl hdm hrows rv hxs hbd him g0 g1 g2 hG3
  have hO0 := OwA.made W3 W3.heap.size (Nat.le_refl _)
  have hB0 : Below W3.heap.size W3 (W3.alloc (.cells #[] 29)) := (Below.refl _ _).alloc (Nat.le_refl _) _
  have hAd : ∃ bb off : Nat, A2 = some ⟨bb, off, none⟩ ∧ ∀ i z, xs[i]? = some z → PAt (W3.alloc (.cells #[] 29)) bb (off + i * 2) z := by
    obtain ⟨b1, o1, s, e1, -⟩ := hS3.at hB0 (show 0 < 4 by decide)
    refine ⟨b1, o1, e1, fun i z hi => ?_⟩
    obtain ⟨b2, o2, t, e2, -, ht, hp⟩ := hS3.at hB0 (k := i) (by have := (List.getElem?_eq_some_iff.1 hi).1; have := HM.out; omega)
    rw [e1] at e2
    simp only [Option.some.injEq, Addr.mk.injEq, and_true] at e2
    obtain ⟨rfl, rfl⟩ := e2
    rw [hi] at ht
    obtain rfl := Option.some.inj ht
    exact hp
  go_wp2_with (at_builtin; refine wpList_appA rfl (.tmp 49) (.tmp 50) rfl W3.heap.size _ [] _ (by rfl) hO0 A2 4 c2 xs (by rfl) HM.out.symm hAd (by decide) hB0.size ?_; intro v1 w4 hO4 hg4 _; refine Hid.out ?_)
  refine Lib.hid ?_
  have hB4 : Below W3.heap.size W3 w4 := below_ownA hB0 hO0 (Nat.le_refl _) hg4
  have hO4 : OwA W3.heap.size v1 xs w4 := hO4
  clear hg4 hO0 hB0 hAd
  obtain ⟨gO, cO, rfl, hgO, hgl, hfz⟩ := hO4.free 0 (by have := HM.out; omega)
  rw [← HM.out] at hO4 ⊢
  have hF4 := (hB4.block _ (blk_lt hF3)).trans hF3
  have hlf := blk_lt hF3
  clear f0 f1 f2 hF3
  obtain ⟨b1, o1, t1, rfl, hlt1, ht1, c0, c1⟩ := hS3.at hB4 (show 1 < 4 by decide)
  obtain rfl : t1 = s1 := by rw [HXS.out] at ht1; exact (Option.some.inj ht1).symm
  obtain ⟨b1', o1', t0, e0, -, ht0, d0, d1⟩ := hS3.at hB4 (show 0 < 4 by decide)
  simp only [Option.some.injEq, Addr.mk.injEq, and_true] at e0
  obtain ⟨rfl, rfl⟩ := e0
  obtain rfl : t0 = s0 := by rw [HXS.out] at ht0; exact (Option.some.inj ht0).symm
  have p0 : PAt w4 gO (0 * 2) t0 := by
    obtain ⟨g', c', e', -, -, h', -⟩ := hO4.at 0 t0 (by rw [HXS.out]; rfl)
    simp only [Value.slice.injEq, Option.some.injEq, Addr.mk.injEq, and_true] at e'
    rw [e'.1]; exact h'
  have p1 : PAt w4 gO (1 * 2) t1 := by
    obtain ⟨g', c', e', -, -, h', -⟩ := hO4.at 1 t1 (by rw [HXS.out]; rfl)
    simp only [Value.slice.injEq, Option.some.injEq, Addr.mk.injEq, and_true] at e'
    rw [e'.1]; exact h'
  obtain ⟨q0, q1⟩ := p0
  obtain ⟨q2, q3⟩ := p1
  simp only [Nat.zero_mul, Nat.zero_add, Nat.add_zero, Nat.one_mul, Nat.reduceAdd] at q0 q1 q2 q3 c0 c1 d0 d1
  have hne : ¬ b1 = gO := by omega
  have hne2 : ¬ gO = b1 := by omega
  obtain ⟨fz0, fz1, fz2, fz3⟩ : w4.frozen? ⟨gO, 0, none⟩ = false ∧ w4.frozen? ⟨gO, 1, none⟩ = false ∧ w4.frozen? ⟨gO, 2, none⟩ = false ∧ w4.frozen? ⟨gO, 3, none⟩ = false := ⟨hfz 0, hfz 1, hfz 2, hfz 3⟩
  obtain ⟨ys, hys⟩ : ∃ l, l = [t1, t0, s2, s3] := ⟨_, rfl⟩
  have hOy := (hO4.put (g := gO) rfl 0 (by have := HM.out; omega) t1).put (g := gO) rfl 1 (by have := HM.out; simp; omega) t0
  rw [show (xs.set 0 t1).set 1 t0 = ys by rw [HXS.out, hys]; rfl] at hOy
  simp only [Nat.zero_mul, Nat.zero_add, Nat.one_mul, Nat.reduceAdd] at hOy
  have HYS := Lib.hid hys
  clear ht1 ht0 hfz hys
  go_upto_region 11 with fail
  obtain ⟨W5, hW5, hO5, hB5, hF5⟩ : ∃ W, W = ((((w4.setCell ⟨gO, 0, none⟩ (.int .i64 t1.p)).setCell ⟨gO, 1, none⟩ (.int .i64 t1.q)).setCell ⟨gO, 2, none⟩ (.int .i64 t0.p)).setCell ⟨gO, 3, none⟩ (.int .i64 t0.q)) ∧ OwA W3.heap.size (.slice (some ⟨gO, 0, none⟩) 4 cO) ys W ∧ Below W3.heap.size W3 W ∧ Blk W bf (frc f) 25 := by
    have e : ∀ v0 v1 v2 v3, ((((w4.setCell ⟨gO, 0, none⟩ v0).setCell ⟨gO, 1, none⟩ v1).setCell ⟨gO, 2, none⟩ v2).setCell ⟨gO, 3, none⟩ v3).heap[bf]? = w4.heap[bf]? := fun v0 v1 v2 v3 =>
      (Below.heap_setCell _ _ _ bf (by show bf ≠ gO; omega)).trans ((Below.heap_setCell _ _ _ bf (by show bf ≠ gO; omega)).trans ((Below.heap_setCell _ _ _ bf (by show bf ≠ gO; omega)).trans (Below.heap_setCell _ _ _ bf (by show bf ≠ gO; omega))))
    exact ⟨_, rfl, hOy, (((hB4.setCell (by show W3.heap.size ≤ gO; omega) _).setCell (by show W3.heap.size ≤ gO; omega) _).setCell (by show W3.heap.size ≤ gO; omega) _).setCell (by show W3.heap.size ≤ gO; omega) _, (e _ _ _ _).trans hF4⟩
  rw [← hW5]
  clear hW5 hOy hO4 hB4 hF4 c0 c1 d0 d1 q0 q1 q2 q3 fz0 fz1 fz2 fz3 hgl hlt1
  have hl5 : ys.length = 4 := by rw [HYS.out]; rfl
  have hT5 := hO5.frsK
  rw [hl5] at hT5
  have hBw5 : Below w.heap.size w W5 := bstep hB3 hB5 hB3.size
  have hS5 := hS3.below hB5
  obtain ⟨x, p, hq⟩ : ∃ x p, frb (detM ys) = .tuple #[frv x, .bool p] := ⟨_, _, rfl⟩
  have HC := Lib.hid hq
  clear hq hO5 hl5
  go_upto_region 12 with (go_at_call 25; (with_reducible refine (det_any_m (some ⟨gO, 0, none⟩) 4 cO ys _ hT5 (hGO.below hBw5) (hGZ.below hBw5) (hGT.below hBw5) x p HC).mono ?_); rintro e w6 ⟨rfl, hb⟩)
  obtain ⟨bx, hbx⟩ : ∃ b, b = w6.heap.size := ⟨_, rfl⟩
  obtain ⟨W6, hW6, hx6, hX6⟩ : ∃ W, W = w6.alloc (.cells #[.int .i64 x.re, .int .i64 x.im, .int .i64 x.den] 25) ∧ Below W5.heap.size W5 W ∧ Blk W bx (frc x) 25 := by
    refine ⟨_, rfl, hb.alloc hb.size _, ?_⟩
    rw [hbx]; exact heap_alloc_last w6 _
  rw [← hW6, ← hbx]
  have hS6 := hS5.below hx6
  have hB6 : Below w.heap.size w W6 := bstep hBw5 hx6 hBw5.size
  have hF6 := (hx6.block _ (blk_lt hF5)).trans hF5
  clear hb hW6 hbx hx6 hS5 hT5 hB5 hF5 hBw5 hS3 hB3
  go_wp2
  go_loopw [11, 12, 13] (fun sm i _ wr => ∃ (n : Nat) (b : Bool), n ≤ 4 ∧ i = .int .i64 n ∧ sm = .bool b ∧ Hid (b = true → f.re = 0) ∧ Below W6.heap.size W6 wr) (fun _ i _ _ => 4 - (intOf i).toNat)
  case atStart => exact ⟨0, false, Nat.zero_le _, rfl, rfl, Lib.hid (fun h => by cases h), Below.refl _ _⟩
  case round =>
    rename World => wp
    obtain ⟨n, b, hn, rfl, rfl, hS, hBp⟩ := hrel
    by_cases hn4 : n < 4
    · have hni : (n : Int) < 4 := by omega
      go_wp2
      go_loopw [11, 13] (fun sm k wr => ∃ (l : Nat) (b : Bool), l ≤ n ∧ k = .int .i64 l ∧ sm = .bool b ∧ Hid (b = true → f.re = 0) ∧ Below W6.heap.size W6 wr) (fun _ k _ => n - (intOf k).toNat)
      case atStart => exact ⟨0, b, Nat.zero_le _, rfl, rfl, hS, hBp⟩
      case round =>
        clear hBp hS
        rename World => wq
        obtain ⟨l, b, hl, rfl, rfl, hS, hBq⟩ := hrel
        by_cases hln : l < n
        · have hli : (l : Int) < (n : Int) := by omega
          have hl4 : (l : Int) < 4 := by omega
          obtain ⟨b2, o2, s, e1, hlt1, hs1, c0, c1⟩ := hS6.at hBq hn4
          obtain ⟨b3, o3, t, e2, hlt2, ht1, d0, d1⟩ := hS6.at hBq (show l < 4 by omega)
          simp only [Option.some.injEq, Addr.mk.injEq, and_true] at e1 e2
          obtain ⟨rfl, rfl⟩ := e1
          obtain ⟨rfl, rfl⟩ := e2
          have hsame : (s.p == t.p && s.q == t.q) = true → f.re = 0 := fun h => by
            have hst : s = t := by
              simp only [Bool.and_eq_true, beq_iff_eq] at h
              obtain ⟨a0, a1⟩ := s
              obtain ⟨a2, a3⟩ := t
              simp only at h
              rw [h.1, h.2]
            subst hst
            exact det_same HD.out hs1 ht1 hln
          have HS := Lib.hid hsame
          clear hs1 ht1 hsame
          cases b
          · clear hS
            cases hp : (s.p == t.p)
            · go_upto_region 19 with fail
              go_quiet (fail)
              go_wp2
              go_roundw
              case rel => exact ⟨l + 1, false, by omega, by go_num, rfl, Lib.hid (fun h => by cases h), by exact below_⟩
              case measure => first | (simp [intOf]; done) | (simp [intOf]; omega)
            · cases hq : (s.q == t.q)
              · go_upto_region 19 with fail
                go_quiet (fail)
                go_wp2
                go_roundw
                case rel => exact ⟨l + 1, false, by omega, by go_num, rfl, Lib.hid (fun h => by cases h), by exact below_⟩
                case measure => first | (simp [intOf]; done) | (simp [intOf]; omega)
              · go_upto_region 19 with fail
                go_quiet (fail)
                go_wp2
                go_roundw
                case rel => exact ⟨l + 1, true, by omega, by go_num, rfl, Lib.hid (fun _ => HS.out (by rw [hp, hq]; rfl)), by exact below_⟩
                case measure => first | (simp [intOf]; done) | (simp [intOf]; omega)
          · go_upto_region 19 with fail
            go_quiet (fail)
            go_wp2
            go_roundw
            case rel => exact ⟨l + 1, true, by omega, by go_num, rfl, hS, by exact below_⟩
            case measure => first | (simp [intOf]; done) | (simp [intOf]; omega)
        · obtain rfl : l = n := by omega
          go_wp2
          go_roundw
          case rel => exact ⟨l + 1, b, by omega, by go_num, rfl, hS, hBq⟩
          case measure => first | (simp [intOf]; done) | (simp [intOf]; omega)
    · obtain rfl : n = 4 := by omega
      have hBz : Below w.heap.size w wp := bstep hB6 hBp hB6.size
      obtain ⟨f0, f1, f2⟩ := blk_fr0 ((hBp.block _ (blk_lt hF6)).trans hF6)
      obtain ⟨x0, x1, x2⟩ := blk_fr0 ((hBp.block _ (blk_lt hX6)).trans hX6)
      obtain ⟨⟨r1, r2⟩, ⟨r3, r4⟩, r5⟩ := HBD.out
      have hw1 : IntKind.i64.wrap (0 - f.re) = -f.re := by rw [IntKind.wrap_i64]; omega
      have hw2 : IntKind.i64.wrap (0 - f.im) = -f.im := by rw [IntKind.wrap_i64]; omega
      have hxp : p = true → x = ⟨-f.re, -f.im, f.den⟩ := fun hp => by
        have h1 := HD.out
        have h2 : detM ys = some x := det_form (hp ▸ HC.out)
        rw [HXS.out] at h1
        rw [HYS.out] at h2
        exact det_swap h1 h2
      have HXP := Lib.hid hxp
      clear hxp hF6 hX6
      cases hp : p
      · cases b
        · go_wp2
          go_ret
          exact ⟨rfl, by exact below_⟩
        · have hr := hS.out rfl
          go_wp2
          go_ret
          exact ⟨by simp [hr], by exact below_⟩
      · rw [HXP.out hp] at x0 x1 x2
        cases b
        · go_wp2
          go_ret
          exact ⟨by simp, by exact below_⟩
        · have hr := hS.out rfl
          go_wp2
          go_ret
          exact ⟨by simp [hr], by exact below_⟩
end
end Go.Proofs.YtalcjmefmffcnaaDoor
