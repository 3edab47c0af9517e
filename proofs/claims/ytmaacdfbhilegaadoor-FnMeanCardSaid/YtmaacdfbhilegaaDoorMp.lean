/-
  The walk of the reference's mean.
-/
import Derived.Test.YtmaacdfbhilegaaDoorMo
import Derived.Deep.CutRange
namespace Go.Proofs.YtmaacdfbhilegaaDoor
set_option linter.unusedSimpArgs false
set_option linter.unusedVariables false
open Go.RowKit
attribute [local go_sem ↓] Go.wp_at_zero Go.wp_at_succ
/-- The result's place and the sum so far. -/
structure TS (w : World) (acc : Fr) (W : World) : Prop where
  r : FrG W w.heap.size ⟨0, 0, 0⟩
  a : FrG W (w.heap.size + 1) acc
  B : Below w.heap.size w W
section
variable {w W w1 : World} {acc : Fr}
theorem TS.alloc (h : TS w acc W) (o : Obj) : TS w acc (W.alloc o) := ⟨h.r.alloc o, h.a.alloc o, h.B.alloc h.B.size o⟩
theorem TS.drew (h : TS w acc W) : TS w acc W.drew := ⟨h.r.drew, h.a.drew, h.B.drew⟩
theorem TS.drewN (h : TS w acc W) (n : Nat) : TS w acc (W.drewN n) := ⟨h.r.drewN n, h.a.drewN n, below_drewN h.B n⟩
theorem TS.set (h : TS w acc W) {p : Addr} (hp : w.heap.size + 1 < p.block) (u : Value) : TS w acc (W.setCell p u) := ⟨h.r.far (by omega) u, h.a.far (by omega) u, h.B.setCell (by omega) u⟩
theorem TS.below (h : TS w acc W) (hb : Below W.heap.size W w1) : TS w acc w1 := ⟨h.r.below hb, h.a.below hb, bstep h.B hb h.B.size⟩
theorem TS.six (h : TS w acc W) {b2 o2 k : Nat} {s : Fr} (hF : ∀ W', Below w.heap.size w W' → FAt W' b2 (o2 + k * 3) s) : W.cell? ⟨w.heap.size + 1, 0, none⟩ = some (.int .i64 acc.re) ∧ W.cell? ⟨w.heap.size + 1, 1, none⟩ = some (.int .i64 acc.im) ∧ W.cell? ⟨w.heap.size + 1, 2, none⟩ = some (.int .i64 acc.den) ∧ W.cell? ⟨b2, o2 + k * 3, none⟩ = some (.int .i64 s.re) ∧ W.cell? ⟨b2, o2 + k * 3 + 1, none⟩ = some (.int .i64 s.im) ∧ W.cell? ⟨b2, o2 + k * 3 + 2, none⟩ = some (.int .i64 s.den) :=
  have hs := hF W h.B
  ⟨h.a.c0, h.a.c1, h.a.c2, hs.1, hs.2.1, hs.2.2⟩
end
theorem sadd_m (a b q : Fr) (ok : Bool) (w : World) (h : Hid (frb (addI a b) = .tuple #[frv q, .bool ok])) :
    Calls Tryd.prog 16 #[frv a, frv b] w fun e w' => e = .returned (.tuple #[frv q, .bool ok]) ∧ Below w.heap.size w w' := by
  rw [← h.out]; exact sadd_any a b w
theorem sover_m (a b q : Fr) (ok : Bool) (w : World) (h : Hid (frb (overI a b) = .tuple #[frv q, .bool ok])) :
    Calls Tryd.prog 17 #[frv a, frv b] w fun e w' => e = .returned (.tuple #[frv q, .bool ok]) ∧ Below w.heap.size w w' := by
  rw [← h.out]; exact sover_any a b w
theorem sreal_m (A : Option Addr) (len cap : Nat) (xs : List Fr) (b : Bool) (w : World) (h : Frs A len cap xs w) (e : Hid (xs.all realOk = b)) :
    Calls Tryd.prog 15 #[.slice A len cap] w fun e w' => e = .returned (.bool b) ∧ Below w.heap.size w w' := by
  rw [← e.out]; exact sreal_any A len cap xs w h
theorem sum_take_none {xs : List Fr} (k : Nat) (h : sumI (xs.take k) = none) : sumI xs = none := by
  have e := List.take_append_drop k xs
  unfold sumI at h ⊢
  rw [← e, List.foldl_append, h, sum_none]
set_option maxRecDepth 100000 in
set_option maxHeartbeats 4000000 in
theorem smean_any (A : Option Addr) (len cap : Nat) (xs : List Fr) (w : World) (h : Frs A len cap xs w) :
    Calls Tryd.prog 6 #[.slice A len cap] w fun e w' => e = .returned (.tuple #[frv ((meanI xs).getD ⟨0, 0, 0⟩), .bool (meanI xs).isSome]) ∧ Below w.heap.size w w' := by
  have hm := h.2.2.1
  have hlc := h.2.1
  cases hl : inB (len : Int) 1 16
  · have he : meanI xs = none := by
      unfold meanI
      rw [if_neg]
      rw [← Bool.not_eq_true, inB_iff] at hl
      have hx := h.1
      simp only [Bool.and_eq_true, decide_eq_true_eq]
      omega
    rw [he]
    go_enter Tryd.func6, Tryd.ntmps6
    go_wp2_with (go_at_call 14; refine (l6in_f _ _ _ _ (by assumption)).mono ?_; rintro e w1 ⟨rfl, rfl⟩)
    exact bodyPost_ret (v := .tuple #[frv ⟨0, 0, 0⟩, .bool false]) (by simp [results, Tryd.results6, go_sem, *]) rfl ⟨rfl, by (repeat' (first | (with_reducible exact Below.refl _ _) | (with_reducible assumption) | (with_reducible refine Below.setCell ?_ (by first | omega | (simp; done) | (simp; omega)) _) | (with_reducible refine Below.alloc ?_ (by first | omega | (simp; done) | (simp; omega)) _) | (with_reducible refine below_drewN ?_ _) | (with_reducible refine Below.drew ?_)))⟩
  have hln := inB_iff.1 hl
  have hall0 : (xs.all realOk = false → meanI xs = none) ∧ (xs.all realOk = true → meanI xs = (sumI xs).bind fun s => overI s ⟨(len : Int), 0, 1⟩) := by
    unfold meanI
    rw [h.1]
    constructor
    · intro hq; simp [hq]
    · intro hq
      have h1 : 1 ≤ len := by omega
      have h2 : len ≤ 16 := by omega
      simp [hq, h1, h2]
  have HXL := Lib.hid h.1
  cases hr : xs.all realOk
  · rw [hall0.1 hr]
    have HR := Lib.hid hr
    go_enter Tryd.func6, Tryd.ntmps6
    go_wp2_with (first | (go_at_call 14; refine (l6in_t _ _ _ _ (by assumption)).mono ?_; rintro e w1 ⟨rfl, rfl⟩) | (go_at_call 15; (with_reducible refine (sreal_m _ len cap xs false _ (h.below (by (repeat' (first | (with_reducible exact Below.refl _ _) | (with_reducible assumption) | (with_reducible refine Below.setCell ?_ (by first | omega | (simp; done) | (simp; omega)) _) | (with_reducible refine Below.alloc ?_ (by first | omega | (simp; done) | (simp; omega)) _) | (with_reducible refine below_drewN ?_ _) | (with_reducible refine Below.drew ?_))))) HR).mono ?_); rintro e w1 ⟨rfl, hb⟩; obtain ⟨hc, hf⟩ := bf hb (w.heap.size + 1 + 1) (by first | omega | (simp; done) | (simp; omega)); have hs := hb.size; (try simp only [World.size_alloc, World.size_setCell, World.size_drew, World.heap_drewN] at hs); have hl : w.heap.size ≤ w1.heap.size ∧ w.heap.size < w1.heap.size ∧ w.heap.size + 1 < w1.heap.size := ⟨by omega, by omega, by omega⟩; have hB : Below w.heap.size w w1 := bstep (by (repeat' (first | (with_reducible exact Below.refl _ _) | (with_reducible assumption) | (with_reducible refine Below.setCell ?_ (by first | omega | (simp; done) | (simp; omega)) _) | (with_reducible refine Below.alloc ?_ (by first | omega | (simp; done) | (simp; omega)) _) | (with_reducible refine below_drewN ?_ _) | (with_reducible refine Below.drew ?_)))) hb (by first | omega | (simp; done) | (simp; omega)); clear hs hb))
    exact bodyPost_ret (v := .tuple #[frv ⟨0, 0, 0⟩, .bool false]) (by simp [results, Tryd.results6, go_sem, *]) rfl ⟨rfl, by (repeat' (first | (with_reducible exact Below.refl _ _) | (with_reducible assumption) | (with_reducible refine Below.setCell ?_ (by first | omega | (simp; done) | (simp; omega)) _) | (with_reducible refine Below.alloc ?_ (by first | omega | (simp; done) | (simp; omega)) _) | (with_reducible refine below_drewN ?_ _) | (with_reducible refine Below.drew ?_)))⟩
  have HE := Lib.hid (hall0.2 hr)
  have HR := Lib.hid hr
  clear hr hall0
  obtain ⟨x, hx⟩ : ∃ x, x = (meanI xs).getD ⟨0, 0, 0⟩ := ⟨_, rfl⟩
  obtain ⟨bb, hbb⟩ : ∃ bb, bb = (meanI xs).isSome := ⟨_, rfl⟩
  rw [← hx, ← hbb]
  have HX := Lib.hid hx
  have HB := Lib.hid hbb
  clear hx hbb
  have hT0 : TS w ⟨0, 0, 1⟩ ((w.alloc (.cells #[.int .i64 0, .int .i64 0, .int .i64 0] 25)).alloc (.cells #[.int .i64 0, .int .i64 0, .int .i64 1] 25)) :=
    ⟨(FrG.new w ⟨0, 0, 0⟩ _).alloc _, by simpa using FrG.new (w.alloc (.cells #[.int .i64 0, .int .i64 0, .int .i64 0] 25)) ⟨0, 0, 1⟩ 25, by (repeat' (first | (with_reducible exact Below.refl _ _) | (with_reducible assumption) | (with_reducible refine Below.setCell ?_ (by first | omega | (simp; done) | (simp; omega)) _) | (with_reducible refine Below.alloc ?_ (by first | omega | (simp; done) | (simp; omega)) _) | (with_reducible refine below_drewN ?_ _) | (with_reducible refine Below.drew ?_)))⟩
  go_enter Tryd.func6, Tryd.ntmps6
  go_wp2_with (first | (go_at_call 14; refine (l6in_t _ _ _ _ (by assumption)).mono ?_; rintro e w1 ⟨rfl, rfl⟩) | (go_at_call 15; (with_reducible refine (sreal_m _ len cap xs true _ (h.below hT0.B) HR).mono ?_); rintro e w1 ⟨rfl, hb⟩; refine Hid.out ?_))
  refine Lib.hid ?_
  have hT1 := hT0.below hb
  clear hb hT0
  go_wp2
  go_loopw [5] (fun i wr => ∃ (k : Nat) (acc : Fr), k ≤ len ∧ i = .int .i64 k ∧ Hid (sumI (xs.take k) = some acc) ∧ TS w acc wr) (fun i _ => len - (intOf i).toNat)
  case atStart => exact ⟨0, ⟨0, 0, 1⟩, Nat.zero_le _, rfl, Lib.hid rfl, hT1⟩
  case round =>
    clear hT1
    obtain ⟨k, acc, hk, rfl, hA, hT⟩ := hrel
    have hz := hT.a.lt
    by_cases hkl : k < len
    · obtain ⟨b2, o2, s, rfl, hlt1, hs1, -⟩ := h.at hT.B hkl
      have hF : ∀ W', Below w.heap.size w W' → FAt W' b2 (o2 + k * 3) s := by
        intro W' hW'
        obtain ⟨b3, o3, s3, e3, -, hs3, hat⟩ := h.at hW' hkl
        simp only [Option.some.injEq, Addr.mk.injEq, and_true] at e3
        obtain ⟨rfl, rfl⟩ := e3
        rw [hs1] at hs3
        obtain rfl := Option.some.inj hs3
        exact hat
      have HQ0 := Lib.hid (sum_snoc (xs.take k) s)
      have HT0 := Lib.hid (show xs.take (k + 1) = xs.take k ++ [s] by rw [List.take_add_one, hs1]; rfl)
      clear hs1
      have hrow : o2 + k * 3 + 2 < 18446744073709551616 ∨ True := .inr trivial
      obtain ⟨x0, x1, x2, xf⟩ := hT.r
      cases hq : addI acc s with
      | none =>
        have hnone : meanI xs = none := by
          have : sumI (xs.take (k + 1)) = none := by rw [HT0.out, HQ0.out, hA.out]; exact hq
          rw [HE.out, sum_take_none (k + 1) this]
          rfl
        have hx0 : x = ⟨0, 0, 0⟩ := by rw [HX.out, hnone]; rfl
        have hb0 : bb = false := by rw [HB.out, hnone]; rfl
        have HC := Lib.hid (show frb (addI acc s) = .tuple #[frv ⟨0, 0, 0⟩, .bool false] by rw [hq]; rfl)
        subst hx0 hb0
        clear hq hnone HQ0 HT0 hrow HX HB
        go_upto_region 7 with fail
        go_region_held3 (fun w' => w'.cell? ⟨w.heap.size + 1, 0, none⟩ = some (.int .i64 acc.re) ∧ w'.cell? ⟨w.heap.size + 1, 1, none⟩ = some (.int .i64 acc.im) ∧ w'.cell? ⟨w.heap.size + 1, 2, none⟩ = some (.int .i64 acc.den) ∧ w'.cell? ⟨b2, o2 + k * 3, none⟩ = some (.int .i64 s.re) ∧ w'.cell? ⟨b2, o2 + k * 3 + 1, none⟩ = some (.int .i64 s.im) ∧ w'.cell? ⟨b2, o2 + k * 3 + 2, none⟩ = some (.int .i64 s.den)) ((refine TS.six (w := w) ?_ hF; (repeat' (first | (with_reducible assumption) | (with_reducible apply TS.alloc) | (with_reducible apply TS.drewN) | (with_reducible apply TS.drew) | ((with_reducible refine TS.set ?_ ?_ _) <;> (first | omega | (simp; done) | (simp; omega) | skip)))))) (first | (go_at_call 16; (with_reducible refine (sadd_m acc s (⟨0, 0, 0⟩ : Fr) false _ HC).mono ?_); rintro e we ⟨rfl, hb⟩; have hM : TS w acc we := TS.below (by (repeat' (first | (with_reducible assumption) | (with_reducible apply TS.alloc) | (with_reducible apply TS.drewN) | (with_reducible apply TS.drew) | ((with_reducible refine TS.set ?_ ?_ _) <;> (first | omega | (simp; done) | (simp; omega) | skip))))) hb; have hB := hM.B; have hlM := hM.a.lt; have hzb := hb.size; (try simp only [World.size_alloc, World.size_setCell, World.size_drew, World.heap_drewN] at hzb); (try (have hT : FrG we (wr.heap.size) ⟨0, 0, 0⟩ := (by refine FrG.below (w := _) ?_ hb; (repeat' (first | (with_reducible assumption) | (with_reducible exact FrG.new _ _ _) | (exact FrG.new _ ⟨0, 0, 0⟩ _) | (with_reducible apply FrG.alloc) | (with_reducible apply FrG.drewN) | (with_reducible apply FrG.drew))); first | done | fail); have hTf := hT.f; have hT0 := hT.c0; have hT1 := hT.c1; have hT2 := hT.c2; have hTl : wr.heap.size < we.heap.size := hT.lt)); clear hb))
        · obtain ⟨W, hW⟩ : ∃ W, W = we.alloc (.cells #[.int .i64 (⟨0, 0, 0⟩ : Fr).re, .int .i64 (⟨0, 0, 0⟩ : Fr).im, .int .i64 (⟨0, 0, 0⟩ : Fr).den] 25) := ⟨_, rfl⟩
          have hM : TS w acc W := by rw [hW]; exact hM.alloc _
          rw [← hW]
          clear hW
          obtain ⟨r0, r1, r2, rf⟩ := hM.r
          have hB := hM.B
          have hlr := hM.r.lt
          go_wp2
          exact bodyPost_ret (v := .tuple #[frv ⟨0, 0, 0⟩, .bool false]) (by simp [results, Tryd.results6, go_sem, *]) rfl ⟨rfl, by (repeat' (first | (with_reducible exact Below.refl _ _) | (with_reducible assumption) | (with_reducible refine Below.setCell ?_ (by first | omega | (simp; done) | (simp; omega)) _) | (with_reducible refine Below.alloc ?_ (by first | omega | (simp; done) | (simp; omega)) _) | (with_reducible refine below_drewN ?_ _) | (with_reducible refine Below.drew ?_)))⟩
        · obtain ⟨W, hW⟩ : ∃ W, W = (((we.setCell ⟨wr.heap.size, 0, none⟩ (.int .i64 (⟨0, 0, 0⟩ : Fr).re)).setCell ⟨wr.heap.size, 1, none⟩ (.int .i64 (⟨0, 0, 0⟩ : Fr).im)).setCell ⟨wr.heap.size, 2, none⟩ (.int .i64 (⟨0, 0, 0⟩ : Fr).den)) := ⟨_, rfl⟩
          have hM : TS w acc W := by rw [hW]; exact ((hM.set (by first | omega | (simp; done) | (simp; omega)) _).set (by first | omega | (simp; done) | (simp; omega)) _).set (by first | omega | (simp; done) | (simp; omega)) _
          rw [← hW]
          clear hW
          obtain ⟨r0, r1, r2, rf⟩ := hM.r
          have hB := hM.B
          have hlr := hM.r.lt
          go_wp2
          exact bodyPost_ret (v := .tuple #[frv ⟨0, 0, 0⟩, .bool false]) (by simp [results, Tryd.results6, go_sem, *]) rfl ⟨rfl, by (repeat' (first | (with_reducible exact Below.refl _ _) | (with_reducible assumption) | (with_reducible refine Below.setCell ?_ (by first | omega | (simp; done) | (simp; omega)) _) | (with_reducible refine Below.alloc ?_ (by first | omega | (simp; done) | (simp; omega)) _) | (with_reducible refine below_drewN ?_ _) | (with_reducible refine Below.drew ?_)))⟩
      | some q =>
        have HQ := Lib.hid (show sumI (xs.take (k + 1)) = some q by rw [HT0.out, HQ0.out, hA.out]; exact hq)
        have HC := Lib.hid (show frb (addI acc s) = .tuple #[frv q, .bool true] by rw [hq]; rfl)
        clear hq HQ0 HT0 hrow
        go_upto_region 7 with fail
        go_region_held3 (fun w' => w'.cell? ⟨w.heap.size + 1, 0, none⟩ = some (.int .i64 acc.re) ∧ w'.cell? ⟨w.heap.size + 1, 1, none⟩ = some (.int .i64 acc.im) ∧ w'.cell? ⟨w.heap.size + 1, 2, none⟩ = some (.int .i64 acc.den) ∧ w'.cell? ⟨b2, o2 + k * 3, none⟩ = some (.int .i64 s.re) ∧ w'.cell? ⟨b2, o2 + k * 3 + 1, none⟩ = some (.int .i64 s.im) ∧ w'.cell? ⟨b2, o2 + k * 3 + 2, none⟩ = some (.int .i64 s.den)) ((refine TS.six (w := w) ?_ hF; (repeat' (first | (with_reducible assumption) | (with_reducible apply TS.alloc) | (with_reducible apply TS.drewN) | (with_reducible apply TS.drew) | ((with_reducible refine TS.set ?_ ?_ _) <;> (first | omega | (simp; done) | (simp; omega) | skip)))))) (first | (go_at_call 16; (with_reducible refine (sadd_m acc s q true _ HC).mono ?_); rintro e we ⟨rfl, hb⟩; have hM : TS w acc we := TS.below (by (repeat' (first | (with_reducible assumption) | (with_reducible apply TS.alloc) | (with_reducible apply TS.drewN) | (with_reducible apply TS.drew) | ((with_reducible refine TS.set ?_ ?_ _) <;> (first | omega | (simp; done) | (simp; omega) | skip))))) hb; have hB := hM.B; have hlM := hM.a.lt; have hzb := hb.size; (try simp only [World.size_alloc, World.size_setCell, World.size_drew, World.heap_drewN] at hzb); (try (have hT : FrG we (wr.heap.size) ⟨0, 0, 0⟩ := (by refine FrG.below (w := _) ?_ hb; (repeat' (first | (with_reducible assumption) | (with_reducible exact FrG.new _ _ _) | (exact FrG.new _ ⟨0, 0, 0⟩ _) | (with_reducible apply FrG.alloc) | (with_reducible apply FrG.drewN) | (with_reducible apply FrG.drew))); first | done | fail); have hTf := hT.f; have hT0 := hT.c0; have hT1 := hT.c1; have hT2 := hT.c2; have hTl : wr.heap.size < we.heap.size := hT.lt)); clear hb))
        · obtain ⟨W, hW⟩ : ∃ W, W = we.alloc (.cells #[.int .i64 q.re, .int .i64 q.im, .int .i64 q.den] 25) := ⟨_, rfl⟩
          obtain ⟨b7, hb7⟩ : ∃ b7, b7 = we.heap.size := ⟨_, rfl⟩
          have hM : TS w acc W := by rw [hW]; exact hM.alloc _
          have hx : FrG W b7 q := by rw [hW, hb7]; exact FrG.new we _ _
          rw [← hW, ← hb7]
          clear hW hb7
          have hB := hM.B
          obtain ⟨x0, x1, x2, xf⟩ := hx
          obtain ⟨a0, a1, a2, af⟩ := hM.a
          have hla := hM.a.lt
          go_wp2
          go_roundw
          case rel => exact ⟨k + 1, q, by omega, by go_num, Lib.hid HQ.out, ⟨((hM.r.far (by simp) _).far (by simp) _).far (by simp) _, hM.a.put q, by (repeat' (first | (with_reducible exact Below.refl _ _) | (with_reducible assumption) | (with_reducible refine Below.setCell ?_ (by first | omega | (simp; done) | (simp; omega)) _) | (with_reducible refine Below.alloc ?_ (by first | omega | (simp; done) | (simp; omega)) _) | (with_reducible refine below_drewN ?_ _) | (with_reducible refine Below.drew ?_)))⟩⟩
          case measure => simp [intOf]; omega
        · obtain ⟨W, hW⟩ : ∃ W, W = (((we.setCell ⟨wr.heap.size, 0, none⟩ (.int .i64 q.re)).setCell ⟨wr.heap.size, 1, none⟩ (.int .i64 q.im)).setCell ⟨wr.heap.size, 2, none⟩ (.int .i64 q.den)) := ⟨_, rfl⟩
          obtain ⟨b7, hb7⟩ : ∃ b7, b7 = wr.heap.size := ⟨_, rfl⟩
          have hM : TS w acc W := by rw [hW]; exact ((hM.set (by first | omega | (simp; done) | (simp; omega)) _).set (by first | omega | (simp; done) | (simp; omega)) _).set (by first | omega | (simp; done) | (simp; omega)) _
          have hx : FrG W b7 q := by rw [hW, hb7]; exact hT.put _
          rw [← hW, ← hb7]
          clear hW hb7
          have hB := hM.B
          obtain ⟨x0, x1, x2, xf⟩ := hx
          obtain ⟨a0, a1, a2, af⟩ := hM.a
          have hla := hM.a.lt
          go_wp2
          go_roundw
          case rel => exact ⟨k + 1, q, by omega, by go_num, Lib.hid HQ.out, ⟨((hM.r.far (by simp) _).far (by simp) _).far (by simp) _, hM.a.put q, by (repeat' (first | (with_reducible exact Below.refl _ _) | (with_reducible assumption) | (with_reducible refine Below.setCell ?_ (by first | omega | (simp; done) | (simp; omega)) _) | (with_reducible refine Below.alloc ?_ (by first | omega | (simp; done) | (simp; omega)) _) | (with_reducible refine below_drewN ?_ _) | (with_reducible refine Below.drew ?_)))⟩⟩
          case measure => simp [intOf]; omega
    · obtain rfl : k = len := by omega
      have hs : sumI xs = some acc := by
        have := hA.out
        rwa [← HXL.out, List.take_length] at this
      have hov : meanI xs = overI acc ⟨(k : Int), 0, 1⟩ := by rw [HE.out, hs]; rfl
      have HO := Lib.hid (show frb (overI acc ⟨(k : Int), 0, 1⟩) = .tuple #[frv x, .bool bb] by rw [HX.out, HB.out, hov])
      clear hs hov HX HB
      obtain ⟨a0, a1, a2, af⟩ := hT.a
      go_wp2_with (go_at_call 17; (with_reducible refine (sover_m acc ⟨(k : Int), 0, 1⟩ x bb _ HO).mono ?_); rintro e w9 ⟨rfl, hb⟩; refine Hid.out ?_)
      refine Lib.hid ?_
      have hT9 := hT.below hb
      obtain ⟨r0, r1, r2, rf⟩ := hT9.r
      have hB := hT9.B
      have hlr := hT9.r.lt
      clear hb
      go_wp2
      exact bodyPost_ret (v := .tuple #[frv x, .bool bb]) (by simp [results, Tryd.results6, go_sem, *]) rfl ⟨rfl, by (repeat' (first | (with_reducible exact Below.refl _ _) | (with_reducible assumption) | (with_reducible refine Below.setCell ?_ (by first | omega | (simp; done) | (simp; omega)) _) | (with_reducible refine Below.alloc ?_ (by first | omega | (simp; done) | (simp; omega)) _) | (with_reducible refine below_drewN ?_ _) | (with_reducible refine Below.drew ?_)))⟩
end Go.Proofs.YtmaacdfbhilegaaDoor
