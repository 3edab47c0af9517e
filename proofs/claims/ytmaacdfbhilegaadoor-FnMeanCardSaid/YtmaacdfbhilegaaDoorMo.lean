/-
  The walks of the mean, the program's and the reference's.
-/
import Derived.Test.YtmaacdfbhilegaaDoorMn
import Derived.Test.YtmaacdfbhilegaaDoorMd
import Derived.Test.YtmaacdfbhilegaaDoorRu
namespace Go.Proofs.YtmaacdfbhilegaaDoor
set_option linter.unusedSimpArgs false
set_option linter.unusedVariables false
open Go.RowKit
attribute [local go_sem ↓] Go.wp_at_zero Go.wp_at_succ
section
variable {w w' : World} {b : Nat} {m : Fr}
theorem FrG.drew (h : FrG w b m) : FrG w.drew b m := ⟨h.c0, h.c1, h.c2, h.f⟩
theorem FrG.drewN (h : FrG w b m) (n : Nat) : FrG (w.drewN n) b m := ⟨h.c0, h.c1, h.c2, h.f⟩
theorem FrG.far (h : FrG w b m) {p : Addr} (hp : b ≠ p.block) (u : Value) : FrG (w.setCell p u) b m := by
  have e := Below.heap_setCell w p u b hp
  have c := fun o => World.cell?_of_block (w := w) (a := ⟨b, o, none⟩) e
  exact ⟨(c 0).trans h.c0, (c 1).trans h.c1, (c 2).trans h.c2, fun o => (World.frozen?_of_block (w := w) e).trans (h.f o)⟩
theorem FrG.below (h : FrG w b m) (hb : Below w.heap.size w w') : FrG w' b m := h.step (br := w.heap.size) (BelX.of hb) h.lt (Nat.ne_of_lt h.lt)
theorem FrG.put (h : FrG w b m) (y : Fr) : FrG (((w.setCell ⟨b, 0, none⟩ (.int .i64 y.re)).setCell ⟨b, 1, none⟩ (.int .i64 y.im)).setCell ⟨b, 2, none⟩ (.int .i64 y.den)) b y :=
  ⟨by simp [go_sem, h.c0, h.c1, h.c2, h.f], by simp [go_sem, h.c0, h.c1, h.c2, h.f], by simp [go_sem, h.c0, h.c1, h.c2, h.f], fun o => by simp [go_sem, h.f]⟩
end
theorem FrG.three {w : World} {b : Nat} {m : Fr} (h : FrG w b m) : w.cell? ⟨b, 0, none⟩ = some (.int .i64 m.re) ∧ w.cell? ⟨b, 1, none⟩ = some (.int .i64 m.im) ∧ w.cell? ⟨b, 2, none⟩ = some (.int .i64 m.den) := ⟨h.c0, h.c1, h.c2⟩
/-- The result's place, the reckoning, the sum so far. -/
structure TM (w : World) (bad : Bool) (acc : Fr) (W : World) : Prop where
  r : FrG W w.heap.size ⟨0, 0, 0⟩
  s : SumIs W (w.heap.size + 1) bad
  a : FrG W (w.heap.size + 1 + 1) acc
  B : Below w.heap.size w W
section
variable {w W w1 : World} {bad : Bool} {acc : Fr}
theorem TM.alloc (h : TM w bad acc W) (o : Obj) : TM w bad acc (W.alloc o) := ⟨h.r.alloc o, h.s.alloc o, h.a.alloc o, h.B.alloc h.B.size o⟩
theorem TM.drew (h : TM w bad acc W) : TM w bad acc W.drew := ⟨h.r.drew, h.s.drew, h.a.drew, h.B.drew⟩
theorem TM.drewN (h : TM w bad acc W) (n : Nat) : TM w bad acc (W.drewN n) := ⟨h.r.drewN n, h.s.drewN n, h.a.drewN n, below_drewN h.B n⟩
theorem TM.below (h : TM w bad acc W) (hb : Below W.heap.size W w1) : TM w bad acc w1 := ⟨h.r.below hb, h.s.below hb h.s.lt, h.a.below hb, bstep h.B hb h.B.size⟩
theorem TM.belX (h : TM w bad acc W) (hb : BelX W.heap.size (w.heap.size + 1) W w1) {c : Bool} (hs : SumIs w1 (w.heap.size + 1) c) : TM w c acc w1 :=
  ⟨h.r.step hb h.r.lt (by omega), hs, h.a.step hb h.a.lt (by omega), (BelX.step (BelX.of h.B) hb h.B.size).below (by omega)⟩
theorem tm_whole (n : Int) (h : TM w bad acc W) :
    Calls Tryd.prog 25 #[.int .i64 n] W fun e w' => e = .returned (frv ⟨n, 0, 1⟩) ∧ TM w bad acc w' :=
  (whole_any n W).mono fun e w1 ⟨h1, hb⟩ => ⟨h1, h.below hb⟩
theorem tm_over (n : Int) (o : Fr) (c : Bool) (hG : GZ w) (ho : Hid ((overI acc ⟨n, 0, 1⟩).getD ⟨0, 0, 0⟩ = o)) (hc : Hid ((bad || (overI acc ⟨n, 0, 1⟩).isNone) = c)) (h : TM w bad acc W) :
    Calls Tryd.prog 24 #[.pointer (some ⟨w.heap.size + 1, 0, none⟩), frv acc, frv ⟨n, 0, 1⟩] W fun e w' => e = .returned (frv o) ∧ TM w c acc w' := by
  refine (x_over acc ⟨n, 0, 1⟩ (w.heap.size + 1) W (SumEx.of h.s) (hG.below h.B)).mono ?_
  rintro e1 w1 ⟨rfl, hu, hb⟩
  rw [ho.out]
  exact ⟨rfl, h.belX hb (hc.out ▸ hu _ h.s)⟩
theorem tm_got (a x : Fr) (b : Bool) (hx : Hid (gotF bad ⟨0, 0, 0⟩ a = x)) (hb : Hid ((!bad) = b)) (h : TM w bad acc W) :
    Calls Tryd.prog 23 #[.pointer (some ⟨w.heap.size + 1, 0, none⟩), frv a] W fun e w' => e = .returned (.tuple #[frv x, .bool b]) ∧ TM w bad acc w' := by
  refine (got_frac a (w.heap.size + 1) W (SumEx.of h.s)).mono ?_
  rintro e1 w1 ⟨c, hc, rfl, hb1⟩
  obtain rfl := hc.uniq h.s
  rw [hx.out, hb.out]
  exact ⟨rfl, h.below hb1⟩
end
/-- What the rounds know of the sum so far. -/
def AccK (xs : List Fr) (k : Nat) (acc : Fr) : Prop := (k = 0 → xs[0]? = some acc) ∧ (0 < k → okK xs k = true → sumI (xs.take k) = some acc)
theorem okK_zero (xs : List Fr) : okK xs 0 = true := by simp [okK, sumI]
set_option maxRecDepth 100000 in
set_option maxHeartbeats 4000000 in
theorem mean_any (A : Option Addr) (len cap : Nat) (xs : List Fr) (w : World) (h : Frs A len cap xs w) (hG : GZ w) :
    Calls Tryd.prog 8 #[.slice A len cap] w fun e w' => e = .returned (.tuple #[frv ((meanI xs).getD ⟨0, 0, 0⟩), .bool (meanI xs).isSome]) ∧ Below w.heap.size w w' := by
  have hm := h.2.2.1
  have hlc := h.2.1
  cases hl : inB (len : Int) 1 16
  · have he : meanI xs = none := by
      unfold meanI
      rw [if_neg]
      rw [← Bool.not_eq_true, inB_iff] at hl
      have hx := h.1
      simp only [Bool.and_eq_true, decide_eq_true_eq]
      omega
    rw [he]
    go_enter Tryd.func8, Tryd.ntmps8
    go_wp2_with (go_at_call 19; refine (within_f _ _ _ _ (by assumption)).mono ?_; rintro e w1 ⟨rfl, rfl⟩)
    exact bodyPost_ret (v := .tuple #[frv ⟨0, 0, 0⟩, .bool false]) (by simp [results, Tryd.results8, go_sem, *]) rfl ⟨rfl, by (repeat' (first | (with_reducible exact Below.refl _ _) | (with_reducible assumption) | (with_reducible refine Below.setCell ?_ (by first | omega | (simp; done) | (simp; omega)) _) | (with_reducible refine Below.alloc ?_ (by first | omega | (simp; done) | (simp; omega)) _) | (with_reducible refine below_drewN ?_ _) | (with_reducible refine Below.drew ?_)))⟩
  have hln := inB_iff.1 hl
  obtain ⟨b1, o1, s0, rfl, hb1, hs0, hc0⟩ := h.at (Below.refl _ _) (k := 0) (by omega)
  obtain ⟨x, hx⟩ : ∃ x, x = (meanI xs).getD ⟨0, 0, 0⟩ := ⟨_, rfl⟩
  obtain ⟨bb, hbb⟩ : ∃ bb, bb = (meanI xs).isSome := ⟨_, rfl⟩
  rw [← hx, ← hbb]
  have HX := Lib.hid hx
  have HB := Lib.hid hbb
  have HS0 := Lib.hid hs0
  have HL := Lib.hid h.1
  clear hx hbb hs0
  rw [Nat.zero_mul, Nat.add_zero] at hc0
  obtain ⟨c0, c1, c2⟩ := hc0
  have hT0 : TM w (!okK xs 0) s0 (((w.alloc (.cells #[.int .i64 0, .int .i64 0, .int .i64 0] 25)).alloc (.cells #[.bool false] 43)).alloc (.cells #[.int .i64 s0.re, .int .i64 s0.im, .int .i64 s0.den] 25)) :=
    ⟨((FrG.new w ⟨0, 0, 0⟩ _).alloc _).alloc _, (SumIs.new' (by simp [okK_zero])).alloc _, by simpa using FrG.new ((w.alloc (.cells #[.int .i64 0, .int .i64 0, .int .i64 0] 25)).alloc (.cells #[.bool false] 43)) s0 25, by (repeat' (first | (with_reducible exact Below.refl _ _) | (with_reducible assumption) | (with_reducible refine Below.setCell ?_ (by first | omega | (simp; done) | (simp; omega)) _) | (with_reducible refine Below.alloc ?_ (by first | omega | (simp; done) | (simp; omega)) _) | (with_reducible refine below_drewN ?_ _) | (with_reducible refine Below.drew ?_)))⟩
  go_enter Tryd.func8, Tryd.ntmps8
  go_wp2_with (go_at_call 19; refine (within_t _ _ _ _ (by assumption)).mono ?_; rintro e w1 ⟨rfl, rfl⟩)
  go_loopw [6, 7, 20] (fun _ _ i wr => ∃ (k : Nat) (acc : Fr), k ≤ len ∧ i = .int .i64 k ∧ Hid (AccK xs k acc) ∧ TM w (!okK xs k) acc wr) (fun _ _ i _ => len - (intOf i).toNat)
  case atStart => exact ⟨0, s0, Nat.zero_le _, rfl, Lib.hid ⟨fun _ => HS0.out, fun h => absurd h (Nat.lt_irrefl 0)⟩, hT0⟩
  case round =>
    clear hT0 c0 c1 c2 HS0
    obtain ⟨k, acc, hk, rfl, hA, hT⟩ := hrel
    have hz := hT.s.lt
    by_cases hkl : k < len
    · obtain ⟨b2, o2, s, e2, hlt1, hs1, hc1⟩ := h.at hT.B hkl
      simp only [Option.some.injEq, Addr.mk.injEq, and_true] at e2
      obtain ⟨rfl, rfl⟩ := e2
      obtain ⟨c0, c1, c2⟩ := hc1
      have HS1 := Lib.hid hs1
      clear hs1
      go_wp2_with (go_at_call 21; (with_reducible refine (realOk_any s _).mono ?_); rintro e w1 ⟨rfl, hb⟩; refine Hid.out ?_)
      refine Lib.hid ?_
      have hT1 := (hT.alloc (.cells #[.int .i64 s.re, .int .i64 s.im, .int .i64 s.den] 25)).below hb
      have hN1 := (FrG.new wr s 25).below hb
      clear hb
      go_wp2_with (go_at_call 20; (with_reducible refine (x_need (realOk s) (w.heap.size + 1) _ (SumEx.of hT1.s)).mono ?_); rintro e w2 ⟨rfl, hu, hb⟩; refine Hid.out ?_)
      refine Lib.hid ?_
      have hT2 := hT1.belX hb (hu _ hT1.s)
      have hN2 := hN1.step hb hN1.lt (by omega)
      clear hb hu hT1 hN1
      rcases Nat.eq_zero_or_pos k with rfl | hk0
      · go_wp2
        go_roundw
        case rel => exact ⟨1, acc, by omega, by go_num, Lib.hid ⟨fun h => absurd h (by omega), fun _ hq => by
          have h1 := hA.out.1 rfl
          have h2 := HS1.out
          rw [h1] at h2
          obtain rfl := Option.some.inj h2
          exact (okK_first h1).2 ((okK_first h1).1 ▸ hq)⟩, by
          have h2 := (okK_first HS1.out).1
          rw [okK_zero, Bool.not_true, Bool.false_or] at hT2
          rw [h2]
          exact hT2⟩
        case measure => simp [intOf]; omega
      · have hk1 : (0 : Int) < (k : Int) := by omega
        obtain ⟨a0, a1, a2, af⟩ := hT2.a
        obtain ⟨n0, n1, n2, nf⟩ := hN2
        go_wp2_with (go_at_call 22; (with_reducible refine (x_add acc s (w.heap.size + 1) _ (SumEx.of hT2.s)).mono ?_); rintro e w3 ⟨rfl, hu, hb⟩; refine Hid.out ?_)
        refine Lib.hid ?_
        have hT3 := hT2.belX hb (hu _ hT2.s)
        clear hb hu n0 n1 n2 nf a0 a1 a2 af hT2
        obtain ⟨a0, a1, a2, af⟩ := hT3.a
        have hn := okK_next HS1.out (hA.out.2 hk0)
        rw [hn.1] at hT3
        have HN := Lib.hid hn.2
        clear hn
        go_wp2
        go_roundw
        case rel => exact ⟨k + 1, (addI acc s).getD ⟨0, 0, 0⟩, by omega, by go_num, Lib.hid ⟨fun h => absurd h (by omega), fun _ => HN.out⟩,
          ⟨((hT3.r.far (by simp; omega) _).far (by simp; omega) _).far (by simp; omega) _, ((hT3.s.far (by simp) _).far (by simp) _).far (by simp) _, hT3.a.put _, by have hB3 := hT3.B; (repeat' (first | (with_reducible exact Below.refl _ _) | (with_reducible assumption) | (with_reducible refine Below.setCell ?_ (by first | omega | (simp; done) | (simp; omega)) _) | (with_reducible refine Below.alloc ?_ (by first | omega | (simp; done) | (simp; omega)) _) | (with_reducible refine below_drewN ?_ _) | (with_reducible refine Below.drew ?_)))⟩⟩
        case measure => simp [intOf]; omega
    · obtain rfl : k = len := by omega
      have hA2 : okK xs xs.length = true → sumI xs = some acc := by
        intro hq
        have := hA.out.2 (by omega)
        rw [← HL.out, List.take_length] at this
        exact this hq
      have hE := mean_end (xs := xs) (acc := acc) (by rw [HL.out]; omega) (by rw [HL.out]; omega) hA2
      rw [HL.out, ← HX.out, ← HB.out] at hE
      have HE1 := Lib.hid hE.1
      have HE2 := Lib.hid hE.2
      obtain ⟨o, ho⟩ : ∃ o, (overI acc ⟨(k : Int), 0, 1⟩).getD ⟨0, 0, 0⟩ = o := ⟨_, rfl⟩
      obtain ⟨c, hc⟩ : ∃ c, (!okK xs k || (overI acc ⟨(k : Int), 0, 1⟩).isNone) = c := ⟨_, rfl⟩
      have HO := Lib.hid ho
      have HC := Lib.hid hc
      rw [ho, hc] at HE1
      rw [hc] at HE2
      clear hE ho hc hA2 HX HB hA
      go_wp2
      go_region_held3 (fun w' => w'.cell? ⟨w.heap.size + 1 + 1, 0, none⟩ = some (.int .i64 acc.re) ∧ w'.cell? ⟨w.heap.size + 1 + 1, 1, none⟩ = some (.int .i64 acc.im) ∧ w'.cell? ⟨w.heap.size + 1 + 1, 2, none⟩ = some (.int .i64 acc.den)) ((refine FrG.three ?_; (repeat' (first | (with_reducible assumption) | (with_reducible exact TM.a (by assumption)) | (with_reducible apply FrG.alloc) | (with_reducible apply FrG.drewN) | (with_reducible apply FrG.drew) | ((with_reducible refine FrG.far ?_ ?_ _) <;> (first | omega | (simp; done) | (simp; omega) | skip)))))) (first | (go_at_call 25; (with_reducible refine (tm_whole _ (by (repeat' (first | (with_reducible assumption) | (with_reducible apply TM.alloc) | (with_reducible apply TM.drewN) | (with_reducible apply TM.drew))))).mono ?_); rintro e wd ⟨rfl, hD⟩; have hB := hD.B; have hl := hD.s.lt; obtain ⟨r0, r1, r2, rf⟩ := hD.r) | (go_at_call 24; (with_reducible refine (tm_over _ o c hG HO HC (by (repeat' (first | (with_reducible assumption) | (with_reducible apply TM.alloc) | (with_reducible apply TM.drewN) | (with_reducible apply TM.drew))))).mono ?_); rintro e wd ⟨rfl, hD⟩; have hB := hD.B; have hl := hD.s.lt; obtain ⟨r0, r1, r2, rf⟩ := hD.r) | (go_at_call 23; (with_reducible refine (tm_got o x bb HE1 HE2 (by (repeat' (first | (with_reducible assumption) | (with_reducible apply TM.alloc) | (with_reducible apply TM.drewN) | (with_reducible apply TM.drew))))).mono ?_); rintro e wd ⟨rfl, hD⟩; have hB := hD.B; have hl := hD.s.lt; obtain ⟨r0, r1, r2, rf⟩ := hD.r))
      all_goals (go_wp2; refine bodyPost_ret (v := .tuple #[frv x, .bool bb]) (by simp [results, Tryd.results8, go_sem, *]) rfl ⟨rfl, by (repeat' (first | (with_reducible exact Below.refl _ _) | (with_reducible assumption) | (with_reducible refine Below.setCell ?_ (by first | omega | (simp; done) | (simp; omega)) _) | (with_reducible refine Below.alloc ?_ (by first | omega | (simp; done) | (simp; omega)) _) | (with_reducible refine below_drewN ?_ _) | (with_reducible refine Below.drew ?_)))⟩)
end Go.Proofs.YtmaacdfbhilegaaDoor
