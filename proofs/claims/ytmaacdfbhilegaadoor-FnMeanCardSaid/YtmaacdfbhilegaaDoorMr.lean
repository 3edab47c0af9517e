/-
  The walk of the statement on means: it returns true, for all bytes.
-/
import Derived.Test.YtmaacdfbhilegaaDoorMq
import Derived.Test.YtmaacdfbhilegaaDoorMf
namespace Go.Proofs.YtmaacdfbhilegaaDoor
set_option linter.unusedSimpArgs false
set_option linter.unusedVariables false
open Go.RowKit
attribute [local go_sem ↓] Go.wp_at_zero Go.wp_at_succ
/-- A list of fractions lies from a block's head on. -/
def LAt (W : World) (g : Nat) (xs : List Fr) : Prop := g < W.heap.size ∧ ∀ k s, xs[k]? = some s → FAt W g (k * 3) s
/-- What lies in the world while the sum is made. -/
structure TU (w : World) (g bn bo bt bs : Nat) (xs : List Fr) (n x t acc : Fr) (W : World) : Prop where
  l : LAt W g xs
  n : FrG W bn n
  o : FrG W bo x
  t : FrG W bt t
  s : FrG W bs acc
  d : g ≠ bs ∧ bn ≠ bs ∧ bo ≠ bs ∧ bt ≠ bs ∧ w.heap.size ≤ bs
  B : Below w.heap.size w W
section
variable {w w' W w1 : World} {g bn bo bt bs : Nat} {xs : List Fr} {n x t acc : Fr}
theorem LAt.below (h : LAt W g xs) (hb : Below W.heap.size W w1) : LAt w1 g xs := ⟨Nat.lt_of_lt_of_le h.1 hb.size, fun k s hk => (h.2 k s hk).below hb h.1⟩
theorem LAt.alloc (h : LAt W g xs) (o : Obj) : LAt (W.alloc o) g xs := h.below ((Below.refl _ _).alloc (Nat.le_refl _) o)
theorem LAt.far (h : LAt W g xs) {p : Addr} (hp : g ≠ p.block) (u : Value) : LAt (W.setCell p u) g xs := by
  have e := Below.heap_setCell W p u g hp
  have c := fun o => World.cell?_of_block (w := W) (a := ⟨g, o, none⟩) e
  exact ⟨by simpa using h.1, fun k s hk => ⟨(c _).trans (h.2 k s hk).1, (c _).trans (h.2 k s hk).2.1, (c _).trans (h.2 k s hk).2.2⟩⟩
theorem OwF.lat {base m cap : Nat} {A : Option Addr} (h : OwF base (.slice A m cap) xs W) (hm : 0 < m) : ∃ g, A = some ⟨g, 0, none⟩ ∧ base ≤ g ∧ LAt W g xs := by
  obtain ⟨e0, hF⟩ := h.read
  obtain ⟨g, cp, e, hb, hlt, -⟩ := h.free 0 (by omega)
  simp only [Value.slice.injEq] at e
  obtain ⟨e1, -, -⟩ := e
  refine ⟨g, e1, hb, hlt, fun k s hk => ?_⟩
  have hk2 := (List.getElem?_eq_some_iff.1 hk).1
  obtain ⟨b2, o2, s2, e2, -, hs2, hat⟩ := hF.at (Below.refl _ _) hk2
  rw [e1] at e2
  simp only [Option.some.injEq, Addr.mk.injEq, and_true] at e2
  obtain ⟨rfl, rfl⟩ := e2
  rw [hk] at hs2
  obtain rfl := Option.some.inj hs2
  rwa [Nat.zero_add] at hat
theorem TU.alloc (h : TU w g bn bo bt bs xs n x t acc W) (o : Obj) : TU w g bn bo bt bs xs n x t acc (W.alloc o) := ⟨h.l.alloc o, h.n.alloc o, h.o.alloc o, h.t.alloc o, h.s.alloc o, h.d, h.B.alloc h.B.size o⟩
theorem TU.drew (h : TU w g bn bo bt bs xs n x t acc W) : TU w g bn bo bt bs xs n x t acc W.drew := ⟨h.l, h.n.drew, h.o.drew, h.t.drew, h.s.drew, h.d, h.B.drew⟩
theorem TU.drewN (h : TU w g bn bo bt bs xs n x t acc W) (m : Nat) : TU w g bn bo bt bs xs n x t acc (W.drewN m) := ⟨h.l, h.n.drewN m, h.o.drewN m, h.t.drewN m, h.s.drewN m, h.d, below_drewN h.B m⟩
theorem TU.set (h : TU w g bn bo bt bs xs n x t acc W) {p : Addr} (hp : g < p.block ∧ bn < p.block ∧ bo < p.block ∧ bt < p.block ∧ bs < p.block ∧ w.heap.size ≤ p.block) (u : Value) : TU w g bn bo bt bs xs n x t acc (W.setCell p u) :=
  ⟨h.l.far (by omega) u, h.n.far (by omega) u, h.o.far (by omega) u, h.t.far (by omega) u, h.s.far (by omega) u, h.d, h.B.setCell (by omega) u⟩
theorem TU.below (h : TU w g bn bo bt bs xs n x t acc W) (hb : Below W.heap.size W w1) : TU w g bn bo bt bs xs n x t acc w1 := ⟨h.l.below hb, h.n.below hb, h.o.below hb, h.t.below hb, h.s.below hb, h.d, bstep h.B hb h.B.size⟩
theorem TU.next (h : TU w g bn bo bt bs xs n x t acc W) (q : Fr) : TU w g bn bo bt bs xs n x t q (((W.setCell ⟨bs, 0, none⟩ (.int .i64 q.re)).setCell ⟨bs, 1, none⟩ (.int .i64 q.im)).setCell ⟨bs, 2, none⟩ (.int .i64 q.den)) := by
  obtain ⟨d0, d1, d2, d3, d4⟩ := h.d
  exact ⟨((h.l.far d0 _).far d0 _).far d0 _, ((h.n.far d1 _).far d1 _).far d1 _, ((h.o.far d2 _).far d2 _).far d2 _, ((h.t.far d3 _).far d3 _).far d3 _, h.s.put q, h.d, ((h.B.setCell d4 _).setCell d4 _).setCell d4 _⟩
theorem TU.six (h : TU w g bn bo bt bs xs n x t acc W) {k : Nat} {s : Fr} (hF : xs[k]? = some s) : W.cell? ⟨bs, 0, none⟩ = some (.int .i64 acc.re) ∧ W.cell? ⟨bs, 1, none⟩ = some (.int .i64 acc.im) ∧ W.cell? ⟨bs, 2, none⟩ = some (.int .i64 acc.den) ∧ W.cell? ⟨g, k * 3, none⟩ = some (.int .i64 s.re) ∧ W.cell? ⟨g, k * 3 + 1, none⟩ = some (.int .i64 s.im) ∧ W.cell? ⟨g, k * 3 + 2, none⟩ = some (.int .i64 s.den) :=
  have hs := h.l.2 k s hF
  ⟨h.s.c0, h.s.c1, h.s.c2, hs.1, hs.2.1, hs.2.2⟩
theorem TU.lts (h : TU w g bn bo bt bs xs n x t acc W) : g < W.heap.size ∧ bn < W.heap.size ∧ bo < W.heap.size ∧ bt < W.heap.size ∧ bs < W.heap.size := ⟨h.l.1, h.n.lt, h.o.lt, h.t.lt, h.s.lt⟩
end
theorem add_m (a b q : Fr) (ok : Bool) (w : World) (h : Hid (frb (addI a b) = .tuple #[frv q, .bool ok])) :
    Calls Tryd.prog 13 #[frv a, frv b] w fun e w' => e = .returned (.tuple #[frv q, .bool ok]) ∧ Below w.heap.size w w' := by
  rw [← h.out]; exact add_any a b w
theorem times_m (a b q : Fr) (ok : Bool) (w : World) (h : Hid (frb (timesI a b) = .tuple #[frv q, .bool ok])) :
    Calls Tryd.prog 12 #[frv a, frv b] w fun e w' => e = .returned (.tuple #[frv q, .bool ok]) ∧ Below w.heap.size w w' := by
  rw [← h.out]; exact times_any a b w
/-- All that the statement asks of a mean. -/
theorem mean_all {xs : List Fr} {n : Fr} (h : meanI xs = some n) : ∃ x t q s, 1 ≤ xs.length ∧ xs[0]? = some x ∧ meanI (xs.take 1) = some x ∧ n.im = 0 ∧ frb (timesI n ⟨xs.length, 0, 1⟩) = .tuple #[frv t, .bool q] ∧ sumI xs = some s ∧ (q = true → t = s) ∧ (∀ k y, xs[k]? = some y → ∀ a, sumI (xs.take k) = some a → ∃ c, addI a y = some c ∧ sumI (xs.take (k + 1)) = some c) := by
  obtain ⟨⟨h1, -⟩, hr, s, hs, -⟩ := mean_parts h
  obtain ⟨him, s2, hs2, ht⟩ := mean_sum h
  rw [hs] at hs2
  obtain rfl := Option.some.inj hs2
  have hx : xs[0]? = some (xs[0]'(by omega)) := List.getElem?_eq_getElem (by omega)
  have ht1 : xs.take 1 = [xs[0]'(by omega)] := by
    cases xs with
    | nil => simp at h1
    | cons y ys => simp
  refine ⟨_, (timesI n ⟨xs.length, 0, 1⟩).getD ⟨0, 0, 0⟩, (timesI n ⟨xs.length, 0, 1⟩).isSome, s, h1, hx, by rw [ht1]; exact mean_one (hr _ (List.getElem_mem _)), him, rfl, hs, fun hq => ?_, fun k y hk a ha => ?_⟩
  · cases htt : timesI n ⟨xs.length, 0, 1⟩ with
    | none => rw [htt] at hq; cases hq
    | some t => exact ht t htt
  · have e : xs.take (k + 1) = xs.take k ++ [y] := by rw [List.take_add_one, hk]; rfl
    have e2 : sumI (xs.take (k + 1)) = addI a y := by rw [e, sum_snoc, ha]; rfl
    cases hc : addI a y with
    | none => rw [hc] at e2; rw [sum_take_none _ e2] at hs; cases hs
    | some c => exact ⟨c, rfl, by rw [e2, hc]⟩
set_option maxRecDepth 100000 in
set_option maxHeartbeats 8000000 in
theorem fnMean_walk (A : Option Addr) (len cap : Nat) (w : World) (hby : Bytes A len cap w) (hGZ : GZ w) :
    Calls Tryd.prog 4 #[.slice A len cap] w fun e w' => e = .returned (.bool true) ∧ Below w.heap.size w w' := by
  by_cases hl : len ≤ 1048576
  · have hd : decide ((1048576 : Int) < (len : Int)) = false := by simp; omega
    go_enter Tryd.func4, Tryd.ntmps4
    go_wp2_with (go_at_call 11; (with_reducible refine (drawMean_any A len cap _ hby).mono ?_); rintro e w1 ⟨xs, v, rfl, ⟨hO, hl7⟩, hB⟩; refine Hid.out ?_)
    refine Lib.hid ?_
    obtain ⟨A1, c1, rfl, -⟩ := hO.frs
    obtain ⟨n, hn⟩ : ∃ n, n = (meanI xs).getD ⟨0, 0, 0⟩ := ⟨_, rfl⟩
    obtain ⟨b, hb0⟩ : ∃ b, b = (meanI xs).isSome := ⟨_, rfl⟩
    have HC := Lib.hid (show frb (meanI xs) = .tuple #[frv n, .bool b] by rw [hn, hb0])
    have HM := Lib.hid (show b = true → meanI xs = some n by
      intro h
      rw [hb0] at h
      cases hx : meanI xs with
      | none => rw [hx] at h; cases h
      | some m => rw [hn, hx]; rfl)
    clear hn hb0
    go_wp2_with (go_at_call 8; (with_reducible refine (mean_m A1 _ c1 xs n b _ hO.read.2 (hGZ.below hB) HC).mono ?_); rintro e w2 ⟨rfl, hb⟩; refine Hid.out ?_)
    refine Lib.hid ?_
    have hO := (hO.below hb).alloc (.cells #[.int .i64 n.re, .int .i64 n.im, .int .i64 n.den] 25)
    have hB : Below w.heap.size w w2 := bstep hB hb hB.size
    have hN := FrG.new w2 n 25
    have hB : Below w.heap.size w (w2.alloc (.cells #[.int .i64 n.re, .int .i64 n.im, .int .i64 n.den] 25)) := hB.alloc hB.size _
    obtain ⟨bn, hbn⟩ : ∃ bn, bn = w2.heap.size := ⟨_, rfl⟩
    clear hb
    go_wp2_with (go_at_call 6; (with_reducible refine (smean_m A1 _ c1 xs n b _ hO.read.2 HC).mono ?_); rintro e w3 ⟨rfl, hb⟩; refine Hid.out ?_)
    refine Lib.hid ?_
    have hO := (hO.below hb).alloc (.cells #[.int .i64 n.re, .int .i64 n.im, .int .i64 n.den] 25)
    have hN := (hN.below hb).alloc (.cells #[.int .i64 n.re, .int .i64 n.im, .int .i64 n.den] 25)
    rw [← hbn] at hN ⊢
    have hB : Below w.heap.size w w3 := bstep hB hb hB.size
    have hX := FrG.new w3 n 25
    have hB : Below w.heap.size w (w3.alloc (.cells #[.int .i64 n.re, .int .i64 n.im, .int .i64 n.den] 25)) := hB.alloc hB.size _
    clear hb hbn
    obtain ⟨n0, n1, n2, nf⟩ := id hN
    obtain ⟨x0, x1, x2, xf⟩ := hX
    cases hb : b
    · go_wp2
      go_ret
      exact ⟨rfl, by (repeat' (first | (with_reducible exact Below.refl _ _) | (with_reducible assumption) | (with_reducible refine Below.setCell ?_ (by first | omega | (simp; done) | (simp; omega)) _) | (with_reducible refine Below.alloc ?_ (by first | omega | (simp; done) | (simp; omega)) _) | (with_reducible refine below_drewN ?_ _) | (with_reducible refine Below.drew ?_)))⟩
    obtain ⟨x, t, q, S, h1, hx0, hone, him, htm, hS, hqt, hnx⟩ := mean_all (HM.out hb)
    have HX0 := Lib.hid hx0
    have HONE := Lib.hid (show frb (meanI (xs.take 1)) = .tuple #[frv x, .bool true] by rw [hone]; rfl)
    have HTM := Lib.hid htm
    have HS := Lib.hid hS
    have HQT := Lib.hid hqt
    have HNX := Lib.hid hnx
    have HIM : (n.im == 0) = true := by simpa using him
    obtain ⟨m, hm⟩ : ∃ m, m = xs.length := ⟨_, rfl⟩
    have HLEN := Lib.hid hm
    have hrd := hO.read.2
    rw [← hm] at h1 hl7 HTM hrd ⊢
    have hcap := hrd.2.1
    have hcap2 := hrd.2.2.1
    have h10 : (1 : Int) ≤ (m : Int) := by omega
    clear HM HC hb hx0 hone htm hS hqt hnx him hm
    go_wp2_with (go_at_call 8; (with_reducible refine (mean_m _ 1 c1 (xs.take 1) x true _ (hrd.take 1 h1) (hGZ.below hB) HONE).mono ?_); rintro e w4 ⟨rfl, hb⟩; refine Hid.out ?_)
    refine Lib.hid ?_
    have hO := (hO.below hb).alloc (.cells #[.int .i64 x.re, .int .i64 x.im, .int .i64 x.den] 25)
    have hN := (hN.below hb).alloc (.cells #[.int .i64 x.re, .int .i64 x.im, .int .i64 x.den] 25)
    have hB : Below w.heap.size w w4 := bstep hB hb hB.size
    have hOn := FrG.new w4 x 25
    have hB : Below w.heap.size w (w4.alloc (.cells #[.int .i64 x.re, .int .i64 x.im, .int .i64 x.den] 25)) := hB.alloc hB.size _
    obtain ⟨bo, hbo⟩ : ∃ bo, bo = w4.heap.size := ⟨_, rfl⟩
    clear hb hrd n0 n1 n2 nf x0 x1 x2 xf
    obtain ⟨n0, n1, n2, nf⟩ := id hN
    go_wp2_with (go_at_call 12; (with_reducible refine (times_m n ⟨(m : Int), 0, 1⟩ t q _ HTM).mono ?_); rintro e w5 ⟨rfl, hb⟩; refine Hid.out ?_)
    refine Lib.hid ?_
    rw [← hbo] at hOn ⊢
    obtain ⟨g, rfl, hgb, hLA⟩ := (show OwF w.heap.size (.slice A1 m c1) xs w5 by rw [HLEN.out]; exact hO.below hb).lat (by omega)
    have hT0 : TU w g bn bo w5.heap.size (w5.heap.size + 1) xs n x t ⟨0, 0, 1⟩ ((w5.alloc (.cells #[.int .i64 t.re, .int .i64 t.im, .int .i64 t.den] 25)).alloc (.cells #[.int .i64 0, .int .i64 0, .int .i64 1] 25)) := by
      have hB5 : Below w.heap.size w w5 := bstep hB hb hB.size
      have hN5 := hN.below hb
      have hO5 := hOn.below hb
      have e1 := hN5.lt
      have e2 := hO5.lt
      have e3 := hLA.1
      have e4 := hB5.size
      exact ⟨(hLA.alloc _).alloc _, (hN5.alloc _).alloc _, (hO5.alloc _).alloc _, (FrG.new w5 t _).alloc _, by simpa using FrG.new (w5.alloc (.cells #[.int .i64 t.re, .int .i64 t.im, .int .i64 t.den] 25)) ⟨0, 0, 1⟩ 25, ⟨by omega, by omega, by omega, by omega, by omega⟩, (hB5.alloc e4 _).alloc (by simp; omega) _⟩
    clear hN hOn hO hB hbo hb hLA n0 n1 n2 nf
    go_wp2
    obtain ⟨bt, hbt⟩ : ∃ bt, bt = w5.heap.size := ⟨_, rfl⟩
    obtain ⟨bs, hbs⟩ : ∃ bs, bs = w5.heap.size + 1 := ⟨_, rfl⟩
    rw [← hbs, ← hbt] at hT0 ⊢
    clear hbt hbs
    go_loopw [13, 14] (fun told i wr => ∃ (k : Nat) (acc : Fr), k ≤ m ∧ i = .int .i64 k ∧ told = .bool true ∧ Hid (sumI (xs.take k) = some acc) ∧ TU w g bn bo bt bs xs n x t acc wr) (fun _ i _ => m - (intOf i).toNat)
    case atStart => exact ⟨0, ⟨0, 0, 1⟩, Nat.zero_le _, rfl, rfl, Lib.hid rfl, hT0⟩
    case round =>
      clear hT0
      obtain ⟨k, acc, hk, rfl, rfl, hA, hT⟩ := hrel
      obtain ⟨l1, l2, l3, l4, l5⟩ := hT.lts
      have hzB := hT.B.size
      by_cases hkl : k < m
      · obtain ⟨s, hs1⟩ : ∃ s, xs[k]? = some s := ⟨_, List.getElem?_eq_getElem (by have := HLEN.out; omega)⟩
        obtain ⟨q1, hq1, hq2⟩ := HNX.out k s hs1 acc hA.out
        have HF := Lib.hid hs1
        have HC := Lib.hid (show frb (addI acc s) = .tuple #[frv q1, .bool true] by rw [hq1]; rfl)
        have HQ := Lib.hid hq2
        clear hs1 hq1 hq2
        go_upto_region 15 with fail
        go_region_held3 (fun w' => w'.cell? ⟨bs, 0, none⟩ = some (.int .i64 acc.re) ∧ w'.cell? ⟨bs, 1, none⟩ = some (.int .i64 acc.im) ∧ w'.cell? ⟨bs, 2, none⟩ = some (.int .i64 acc.den) ∧ w'.cell? ⟨g, k * 3, none⟩ = some (.int .i64 s.re) ∧ w'.cell? ⟨g, k * 3 + 1, none⟩ = some (.int .i64 s.im) ∧ w'.cell? ⟨g, k * 3 + 2, none⟩ = some (.int .i64 s.den)) ((refine TU.six (w := w) (g := g) (bn := bn) (bo := bo) (bt := bt) (bs := bs) (xs := xs) (n := n) (x := x) (t := t) (acc := acc) ?_ HF.out; (repeat' (first | (with_reducible assumption) | (with_reducible apply TU.alloc) | (with_reducible apply TU.drewN) | (with_reducible apply TU.drew) | ((with_reducible refine TU.set ?_ ?_ _) <;> (first | (refine ⟨?_, ?_, ?_, ?_, ?_, ?_⟩ <;> first | omega | (simp; done) | (simp; omega)) | skip)))))) (first | (go_at_call 13; (with_reducible refine (add_m acc s q1 true _ HC).mono ?_); rintro e we ⟨rfl, hb⟩; have hM : TU w g bn bo bt bs xs n x t acc we := TU.below (by (repeat' (first | (with_reducible assumption) | (with_reducible apply TU.alloc) | (with_reducible apply TU.drewN) | (with_reducible apply TU.drew) | ((with_reducible refine TU.set ?_ ?_ _) <;> (first | (refine ⟨?_, ?_, ?_, ?_, ?_, ?_⟩ <;> first | omega | (simp; done) | (simp; omega)) | skip))))) hb; have hB := hM.B; obtain ⟨m1, m2, m3, m4, m5⟩ := hM.lts; have hzb := hb.size; (try simp only [World.size_alloc, World.size_setCell, World.size_drew, World.heap_drewN] at hzb); (try (have hT : FrG we (wr.heap.size) ⟨0, 0, 0⟩ := (by refine FrG.below (w := _) ?_ hb; (repeat' (first | (with_reducible assumption) | (with_reducible exact FrG.new _ _ _) | (exact FrG.new _ ⟨0, 0, 0⟩ _) | (with_reducible apply FrG.alloc) | (with_reducible apply FrG.drewN) | (with_reducible apply FrG.drew))); first | done | fail); have hTf := hT.f; have hT0 := hT.c0; have hT1 := hT.c1; have hT2 := hT.c2; have hTl : wr.heap.size < we.heap.size := hT.lt)); clear hb))
        · obtain ⟨W, hW⟩ : ∃ W, W = we.alloc (.cells #[.int .i64 q1.re, .int .i64 q1.im, .int .i64 q1.den] 25) := ⟨_, rfl⟩
          obtain ⟨b7, hb7⟩ : ∃ b7, b7 = we.heap.size := ⟨_, rfl⟩
          have hM : TU w g bn bo bt bs xs n x t acc W := by rw [hW]; exact hM.alloc _
          have hx : FrG W b7 q1 := by rw [hW, hb7]; exact FrG.new we _ _
          rw [← hW, ← hb7]
          clear hW hb7
          have hB := hM.B
          obtain ⟨x0, x1, x2, xf⟩ := hx
          obtain ⟨a0, a1, a2, af⟩ := hM.s
          have hla := hM.s.lt
          go_wp2
          go_roundw
          case rel => exact ⟨k + 1, q1, by omega, by go_num, rfl, Lib.hid HQ.out, hM.next q1⟩
          case measure => simp [intOf]; omega
        · have hst : g < wr.heap.size ∧ bn < wr.heap.size ∧ bo < wr.heap.size ∧ bt < wr.heap.size ∧ bs < wr.heap.size ∧ w.heap.size ≤ wr.heap.size := ⟨l1, l2, l3, l4, l5, hzB⟩
          obtain ⟨W, hW⟩ : ∃ W, W = (((we.setCell ⟨wr.heap.size, 0, none⟩ (.int .i64 q1.re)).setCell ⟨wr.heap.size, 1, none⟩ (.int .i64 q1.im)).setCell ⟨wr.heap.size, 2, none⟩ (.int .i64 q1.den)) := ⟨_, rfl⟩
          obtain ⟨b7, hb7⟩ : ∃ b7, b7 = wr.heap.size := ⟨_, rfl⟩
          have hM : TU w g bn bo bt bs xs n x t acc W := by rw [hW]; exact ((hM.set hst _).set hst _).set hst _
          have hx : FrG W b7 q1 := by rw [hW, hb7]; exact hT.put _
          rw [← hW, ← hb7]
          clear hW hb7
          have hB := hM.B
          obtain ⟨x0, x1, x2, xf⟩ := hx
          obtain ⟨a0, a1, a2, af⟩ := hM.s
          have hla := hM.s.lt
          go_wp2
          go_roundw
          case rel => exact ⟨k + 1, q1, by omega, by go_num, rfl, Lib.hid HQ.out, hM.next q1⟩
          case measure => simp [intOf]; omega
      · obtain rfl : k = m := by omega
        have hacc : sumI xs = some acc := by
          have := hA.out
          rwa [HLEN.out, List.take_length] at this
        have hS := HS.out
        rw [hacc] at hS
        obtain rfl := Option.some.inj hS
        obtain ⟨a0, a1, a2, af⟩ := hT.s
        obtain ⟨n0, n1, n2, nf⟩ := hT.n
        obtain ⟨o0, o1, o2, of⟩ := hT.o
        obtain ⟨t0, t1, t2, tf⟩ := hT.t
        obtain ⟨c0, c1, c2⟩ := hT.l.2 0 x HX0.out
        simp only [Nat.zero_mul, Nat.zero_add] at c0 c1 c2
        have hB := hT.B
        clear hacc hS hT
        cases hq : q
        · go_wp2
          go_quiet (fail)
          go_wp2
          go_ret
          exact ⟨rfl, by (repeat' (first | (with_reducible exact Below.refl _ _) | (with_reducible assumption) | (with_reducible refine Below.setCell ?_ (by first | omega | (simp; done) | (simp; omega)) _) | (with_reducible refine Below.alloc ?_ (by first | omega | (simp; done) | (simp; omega)) _) | (with_reducible refine below_drewN ?_ _) | (with_reducible refine Below.drew ?_)))⟩
        · obtain rfl := HQT.out hq
          go_wp2
          go_quiet (fail)
          go_wp2
          go_ret
          exact ⟨rfl, by (repeat' (first | (with_reducible exact Below.refl _ _) | (with_reducible assumption) | (with_reducible refine Below.setCell ?_ (by first | omega | (simp; done) | (simp; omega)) _) | (with_reducible refine Below.alloc ?_ (by first | omega | (simp; done) | (simp; omega)) _) | (with_reducible refine below_drewN ?_ _) | (with_reducible refine Below.drew ?_)))⟩
  · have hd : decide ((1048576 : Int) < (len : Int)) = true := by simp; omega
    go_enter Tryd.func4, Tryd.ntmps4
    go_wp2
    go_ret
    exact ⟨rfl, by (repeat' (first | (with_reducible exact Below.refl _ _) | (with_reducible assumption) | (with_reducible refine Below.setCell ?_ (by first | omega | (simp; done) | (simp; omega)) _) | (with_reducible refine Below.alloc ?_ (by first | omega | (simp; done) | (simp; omega)) _) | (with_reducible refine below_drewN ?_ _) | (with_reducible refine Below.drew ?_)))⟩
end Go.Proofs.YtmaacdfbhilegaaDoor
