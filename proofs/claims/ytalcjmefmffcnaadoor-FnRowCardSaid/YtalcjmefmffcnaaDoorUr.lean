/-
  The walk of FnRow: it returns true, for all codes.
-/
import Derived.Test.YtalcjmefmffcnaaDoorUm
import Derived.Test.YtalcjmefmffcnaaDoorPn
import Derived.Test.YtalcjmefmffcnaaDoorTy
import Derived.Test.YtalcjmefmffcnaaDoorEq
namespace Go.Proofs.YtalcjmefmffcnaaDoor
set_option linter.unusedSimpArgs false
set_option linter.unusedVariables false
open Go.RowKit
attribute [local go_sem ↓] Go.wp_at_zero Go.wp_at_succ
theorem eqA_run (m : Mt) (w : World) : (Op.equalIn 10000 26 (mtv m) (mtv m)).run Tryd.prog w = .ok true w := by
  obtain ⟨i, hi⟩ : ∃ i, Tryd.prog.info? 25 = some i := Option.isSome_iff_exists.1 (by kernel_rfl)
  rw [show (10000 : Nat) = 9999 + 1 from rfl, run_equalIn_array w 9999 _ _ Tryd.underlying26 hi]
  obtain ⟨p0, p1, p2, p3⟩ := part_f m w
  have e : ∀ a : Fr, (Op.equalIn 9999 25 (frv a) (frv a)).run Tryd.prog w = .ok true w := fun a => eqF_run 9997 a w
  simp only [show List.range 4 = [0, 1, 2, 3] from rfl, show Tryd.prog.cellsOf 25 = 3 by kernel_rfl, Op.eqItems, Sem.run_bind, Nat.zero_mul, Nat.one_mul, show 2 * 3 = 6 from rfl, show 3 * 3 = 9 from rfl, p0, p1, p2, p3, e, Result.andThen_ok, Bool.not_true, Bool.false_eq_true, if_false, Sem.run_pure]
theorem ti_k (a b mv : Fr) (mo : Bool) (w : World) (h1 : Hid (vN (timesI a b) = mv)) (h2 : Hid ((timesI a b).isSome = mo)) : Calls Tryd.prog 19 #[frv a, frv b] w fun e w' => e = .returned (.tuple #[frv mv, .bool mo]) ∧ Below w.heap.size w w' := by
  rw [← h1.out, ← h2.out]; exact times_any a b w
theorem ai_k (a b mv : Fr) (mo : Bool) (w : World) (h1 : Hid (vN (addI a b) = mv)) (h2 : Hid ((addI a b).isSome = mo)) : Calls Tryd.prog 20 #[frv a, frv b] w fun e w' => e = .returned (.tuple #[frv mv, .bool mo]) ∧ Below w.heap.size w w' := by
  rw [← h1.out, ← h2.out]; exact add_any a b w
/-- What the rounds keep. -/
structure RT (w : World) (bo bs : Nat) (q : Mt) (acc : Fr) (W : World) : Prop where
  B : Below w.heap.size w W
  o : Blk W bo (mtc q) 26
  s : Blk W bs (frc acc) 25
  l : w.heap.size ≤ bo ∧ bo < bs
section
variable {w W W' : World} {bo bs : Nat} {q : Mt} {acc : Fr}
theorem RT.below (h : RT w bo bs q acc W) (hb : Below W.heap.size W W') : RT w bo bs q acc W' := ⟨bstep h.B hb h.B.size, (hb.block _ (blk_lt h.o)).trans h.o, (hb.block _ (blk_lt h.s)).trans h.s, h.l⟩
theorem RT.put (h : RT w bo bs q acc W) (v : Fr) : RT w bo bs q v (((W.setCell ⟨bs, 0, none⟩ (.int .i64 v.re)).setCell ⟨bs, 1, none⟩ (.int .i64 v.im)).setCell ⟨bs, 2, none⟩ (.int .i64 v.den)) := by
  have hl := h.l
  exact ⟨((h.B.setCell (by show w.heap.size ≤ bs; omega) _).setCell (by show w.heap.size ≤ bs; omega) _).setCell (by show w.heap.size ≤ bs; omega) _, (Below.heap_setCell _ _ _ bo (by show bo ≠ bs; omega)).trans ((Below.heap_setCell _ _ _ bo (by show bo ≠ bs; omega)).trans ((Below.heap_setCell _ _ _ bo (by show bo ≠ bs; omega)).trans h.o)), blk_put (xs := [acc]) h.s (i := 0) (show 0 < 1 by decide) v, h.l⟩
end
theorem sqr_next (q : Mt) (k : Nat) (h1 : 1 ≤ k) (h2 : k < 4) : dotS (sqr3 q.b q.c q.d) (sqr3 q.b q.c q.d) k = (vN (addI (dotS (sqr3 q.b q.c q.d) (sqr3 q.b q.c q.d) (k - 1)).1 (vN (timesI (mrow q k) (mrow q k)))), ((dotS (sqr3 q.b q.c q.d) (sqr3 q.b q.c q.d) (k - 1)).2 || (timesI (mrow q k) (mrow q k)).isNone) || (addI (dotS (sqr3 q.b q.c q.d) (sqr3 q.b q.c q.d) (k - 1)).1 (vN (timesI (mrow q k) (mrow q k)))).isNone) := by
  match k, h1, h2 with
  | 1, _, _ => rfl
  | 2, _, _ => rfl
  | 3, _, _ => rfl
theorem ns_of {o : Option Fr} {b : Bool} (h : o.isSome = b) : o.isNone = !b := nn_of h
section
attribute [local go_sem] eqA_run
set_option maxRecDepth 100000 in
set_option maxHeartbeats 8000000 in
theorem fnRow_walk (A : Option Addr) (len cap : Nat) (w : World) (hby : Bytes A len cap w) (hGO : GO w) (hGZ : GZ w) (hGT : GT w) :
    Calls Tryd.prog 4 #[.slice A len cap] w fun e w' => e = .returned (.bool true) ∧ Below w.heap.size w w' := by
  have hcap := hby.2.1
  have hlc := hby.1
  by_cases hbig : 1048576 < len
  · have hd : decide ((1048576 : Int) < (len : Int)) = true := by simp; omega
    go_enter Tryd.func4, Tryd.ntmps4
    go_wp2
    go_ret
    exact ⟨rfl, by exact below_⟩
  have hd : decide ((1048576 : Int) < (len : Int)) = false := by simp; omega
  go_enter Tryd.func4, Tryd.ntmps4
  go_upto_region 4 with (go_at_call 18; (with_reducible refine (drawMeterRow_any A len cap _ hby).mono ?_); rintro e w1 ⟨s, rfl, hb⟩)
  obtain ⟨q, ok, hq, hok, hrow⟩ := rwb_form s
  have HC := Lib.hid hq
  have HOK := Lib.hid hok
  have HROW := Lib.hid hrow
  have hst : Blk (w1.alloc (.cells #[.int .i64 s.p, .int .i64 s.q] 29)) w1.heap.size #[.int .i64 s.p, .int .i64 s.q] 29 := heap_alloc_last w1 _
  have hB1 : Below w.heap.size w (w1.alloc (.cells #[.int .i64 s.p, .int .i64 s.q] 29)) := hb.alloc hb.size _
  obtain ⟨b3, hb3⟩ : ∃ b, b = w1.heap.size := ⟨_, rfl⟩
  have hz3 : w.heap.size ≤ b3 := by rw [hb3]; exact hb.size
  obtain ⟨W1, hW1⟩ : ∃ W, W = w1.alloc (.cells #[.int .i64 s.p, .int .i64 s.q] 29) := ⟨_, rfl⟩
  rw [← hW1, ← hb3] at hst
  rw [← hW1] at hB1
  rw [← hW1, ← hb3]
  clear hq hok hrow hb hb3 hW1
  have hs0 : W1.cell? ⟨b3, 0, none⟩ = some (.int .i64 s.p) ∧ W1.cell? ⟨b3, 1, none⟩ = some (.int .i64 s.q) := ⟨by simp [World.cell?, hst], by simp [World.cell?, hst]⟩
  obtain ⟨c0, c1⟩ := hs0
  go_upto_region 5 with (go_at_call 16; (with_reducible refine (row_m s q ok _ (hGO.below hB1) (hGZ.below hB1) (hGT.below hB1) HC).mono ?_); rintro e w2 ⟨rfl, hb⟩)
  have hst2 : Blk (w2.alloc (.cells (mtc q) 26)) b3 #[.int .i64 s.p, .int .i64 s.q] 29 := (Below.heap_alloc _ _ _ (by have := hb.size; have := blk_lt hst; omega)).trans ((hb.block _ (blk_lt hst)).trans hst)
  have hB2 : Below w.heap.size w (w2.alloc (.cells (mtc q) 26)) := by
    have h9 : Below w.heap.size w w2 := bstep hB1 hb hB1.size
    exact h9.alloc h9.size _
  have hbo : Blk (w2.alloc (.cells (mtc q) 26)) w2.heap.size (mtc q) 26 := heap_alloc_last w2 _
  have hz2 : b3 < w2.heap.size := by have := hb.size; have := blk_lt hst; omega
  obtain ⟨bo, hbo2⟩ : ∃ b, b = w2.heap.size := ⟨_, rfl⟩
  obtain ⟨W2, hW2, hW2'⟩ : ∃ W, W = w2.alloc (.cells (mtc q) 26) ∧ W = w2.alloc (.cells #[.int .i64 q.a.re, .int .i64 q.a.im, .int .i64 q.a.den, .int .i64 q.b.re, .int .i64 q.b.im, .int .i64 q.b.den, .int .i64 q.c.re, .int .i64 q.c.im, .int .i64 q.c.den, .int .i64 q.d.re, .int .i64 q.d.im, .int .i64 q.d.den] 26) := ⟨_, rfl, rfl⟩
  rw [← hW2] at hst2 hB2 hbo
  rw [← hbo2] at hbo hz2
  rw [← hW2', ← hbo2]
  clear hW2 hW2' hbo2 hb hst c0 c1 hB1
  have hs0 : W2.cell? ⟨b3, 0, none⟩ = some (.int .i64 s.p) ∧ W2.cell? ⟨b3, 1, none⟩ = some (.int .i64 s.q) := ⟨by simp [World.cell?, hst2], by simp [World.cell?, hst2]⟩
  obtain ⟨c0, c1⟩ := hs0
  go_upto_region 6 with (go_at_call 14; (with_reducible refine (srow_m s q ok _ HC).mono ?_); rintro e w3 ⟨rfl, hb⟩)
  have hB3 : Below w.heap.size w (w3.alloc (.cells #[.int .i64 q.a.re, .int .i64 q.a.im, .int .i64 q.a.den, .int .i64 q.b.re, .int .i64 q.b.im, .int .i64 q.b.den, .int .i64 q.c.re, .int .i64 q.c.im, .int .i64 q.c.den, .int .i64 q.d.re, .int .i64 q.d.im, .int .i64 q.d.den] 26)) := by
    have h9 : Below w.heap.size w w3 := bstep hB2 hb hB2.size
    exact h9.alloc h9.size _
  have hM : MtAt (w3.alloc (.cells #[.int .i64 q.a.re, .int .i64 q.a.im, .int .i64 q.a.den, .int .i64 q.b.re, .int .i64 q.b.im, .int .i64 q.b.den, .int .i64 q.c.re, .int .i64 q.c.im, .int .i64 q.c.den, .int .i64 q.d.re, .int .i64 q.d.im, .int .i64 q.d.den] 26)) w3.heap.size q := MtAt.new w3 q 26
  have hbo3 : Blk (w3.alloc (.cells #[.int .i64 q.a.re, .int .i64 q.a.im, .int .i64 q.a.den, .int .i64 q.b.re, .int .i64 q.b.im, .int .i64 q.b.den, .int .i64 q.c.re, .int .i64 q.c.im, .int .i64 q.c.den, .int .i64 q.d.re, .int .i64 q.d.im, .int .i64 q.d.den] 26)) bo (mtc q) 26 := (Below.heap_alloc _ _ _ (by have := hb.size; have := blk_lt hbo; omega)).trans ((hb.block _ (blk_lt hbo)).trans hbo)
  have hz4 : bo < w3.heap.size := by have := hb.size; have := blk_lt hbo; omega
  obtain ⟨bw, hbw⟩ : ∃ b, b = w3.heap.size := ⟨_, rfl⟩
  obtain ⟨W3, hW3⟩ : ∃ W, W = w3.alloc (.cells #[.int .i64 q.a.re, .int .i64 q.a.im, .int .i64 q.a.den, .int .i64 q.b.re, .int .i64 q.b.im, .int .i64 q.b.den, .int .i64 q.c.re, .int .i64 q.c.im, .int .i64 q.c.den, .int .i64 q.d.re, .int .i64 q.d.im, .int .i64 q.d.den] 26) := ⟨_, rfl⟩
  rw [← hW3, ← hbw] at hM
  rw [← hW3] at hB3 hbo3
  rw [← hW3, ← hbw]
  rw [← hbw] at hz4
  clear hW3 hbw hb hst2 c0 c1 hB2 hbo
  have hN : MtAt W3 bo q := by
    have h := fun i (hi : i < 4) => blk_get (xs := row4 q) hbo3 (i := i) hi
    obtain ⟨a0, a1, a2⟩ := h 0 (by omega)
    obtain ⟨a3, a4, a5⟩ := h 1 (by omega)
    obtain ⟨a6, a7, a8⟩ := h 2 (by omega)
    obtain ⟨a9, a10, a11⟩ := h 3 (by omega)
    exact ⟨a0, a1, a2, a3, a4, a5, a6, a7, a8, a9, a10, a11⟩
  obtain ⟨n0, n1, n2, n3, n4, n5, n6, n7, n8, n9, n10, n11⟩ := hN
  obtain ⟨m0, m1, m2, m3, m4, m5, m6, m7, m8, m9, m10, m11⟩ := hM
  cases hk : ok
  · clear HROW hbo3
    go_wp2
    go_ret
    exact ⟨rfl, by exact below_⟩
  have hr := HROW.out hk
  have hlaw := row_law (x0 := q.a) (x1 := q.b) (x2 := q.c) (x3 := q.d) hr
  have hsq := fun h => sqr_law (x0 := q.a) (x1 := q.b) (x2 := q.c) (x3 := q.d) hr h
  have hreal := (row_some hr).2
  have him : ∀ k, k < 4 → (mrow q k).im = 0 := fun k hk => by
    have : realOk (mrow q k) = true := match k, hk with
      | 0, _ => hreal _ (by simp [row4, mrow])
      | 1, _ => hreal _ (by simp [row4, mrow])
      | 2, _ => hreal _ (by simp [row4, mrow])
      | 3, _ => hreal _ (by simp [row4, mrow])
    exact (real_parts this).2.1
  have HA := Lib.hid hlaw.1
  have HSQ := Lib.hid hsq
  have HIM := Lib.hid him
  clear hr hlaw hsq hreal him HROW HC HOK hk
  obtain ⟨r3, hr3⟩ : ∃ r, r = sqr3 q.b q.c q.d := ⟨_, rfl⟩
  have HR3 := Lib.hid hr3
  clear hr3
  go_upto_region 9 with fail
  obtain ⟨bs, hbs⟩ : ∃ b, b = W3.heap.size := ⟨_, rfl⟩
  obtain ⟨W4, hW4, hT⟩ : ∃ W, W = W3.alloc (.cells #[.int .i64 0, .int .i64 0, .int .i64 1] 25) ∧ RT w bo bs q ⟨0, 0, 1⟩ W := by
    refine ⟨_, rfl, hB3.alloc hB3.size _, (Below.heap_alloc _ _ _ (blk_lt hbo3)).trans hbo3, ?_, ?_⟩
    · rw [hbs]; exact heap_alloc_last W3 _
    · have := blk_lt hbo3; omega
  rw [← hW4, ← hbs]
  clear hW4 hbs hB3 hbo3 n0 m0 n1 m1 n2 m2 n3 m3 n4 m4 n5 m5 n6 m6 n7 m7 n8 m8 n9 m9 n10 m10 n11 m11 hz2 hz3 hz4
  go_wp2
  go_loopw [9, 10, 11, 12, 13, 14] (fun t i _ _ _ _ wr => ∃ k : Nat, 1 ≤ k ∧ k ≤ 4 ∧ i = .int .i64 k ∧ t = .bool (!(dotS r3 r3 (k - 1)).2) ∧ RT w bo bs q (dotS r3 r3 (k - 1)).1 wr) (fun _ i _ _ _ _ _ => 4 - (intOf i).toNat)
  case atStart => exact ⟨1, Nat.le_refl _, by omega, rfl, rfl, hT⟩
  case round =>
    clear hT
    rename World => wo
    obtain ⟨k, hk1, hk, rfl, rfl, hT⟩ := hrel
    obtain ⟨d, hd⟩ : ∃ x, x = dotS r3 r3 (k - 1) := ⟨_, rfl⟩
    rw [← hd] at hT ⊢
    have HDD := Lib.hid hd
    clear hd
    by_cases hkl : k < 4
    · have hki : (k : Int) < 4 := by omega
      have hki0 : (0 : Int) ≤ (k : Int) := by omega
      obtain ⟨xv, hxv⟩ : ∃ x, vN (timesI (mrow q k) (mrow q k)) = x := ⟨_, rfl⟩
      obtain ⟨xo, hxo⟩ : ∃ x, (timesI (mrow q k) (mrow q k)).isSome = x := ⟨_, rfl⟩
      obtain ⟨av, hav⟩ : ∃ x, vN (addI d.1 xv) = x := ⟨_, rfl⟩
      obtain ⟨ao, hao⟩ : ∃ x, (addI d.1 xv).isSome = x := ⟨_, rfl⟩
      have hnx := sqr_next q k hk1 hkl
      rw [← HR3.out, ← HDD.out, hxv, hav, ns_of hxo, ns_of hao] at hnx
      have HX := Lib.hid hxv
      have HO := Lib.hid hxo
      have HV := Lib.hid hav
      have HW := Lib.hid hao
      have HNX := Lib.hid hnx
      clear hxv hxo hav hao hnx
      obtain ⟨l1, l2⟩ := hT.l
      obtain ⟨a0, a1, a2⟩ := blk_get (xs := row4 q) hT.o (i := k) hkl
      go_upto_region 13 with fail
      go_cut [11, 12] from 55 to 64 (fun s11 s12 W => s12 = .bool xo ∧ ∃ bx : Nat, s11 = .pointer (some ⟨bx, 0, none⟩) ∧ wo.heap.size ≤ bx ∧ Blk W bx (frc xv) 25 ∧ RT w bo bs q d.1 W)
      case first =>
        have lo := blk_lt hT.o
        have hSx : ∀ W, Below wo.heap.size wo W → W.cell? ⟨bo, k * 3, none⟩ = some (.int .i64 (mrow q k).re) ∧ W.cell? ⟨bo, k * 3 + 1, none⟩ = some (.int .i64 (mrow q k).im) ∧ W.cell? ⟨bo, k * 3 + 2, none⟩ = some (.int .i64 (mrow q k).den) := fun W h =>
          ⟨(h.cell (p := ⟨_, _, none⟩) lo).trans a0, (h.cell (p := ⟨_, _, none⟩) lo).trans a1, (h.cell (p := ⟨_, _, none⟩) lo).trans a2⟩
        go_region_held3 (fun W => W.cell? ⟨bo, k * 3, none⟩ = some (.int .i64 (mrow q k).re) ∧ W.cell? ⟨bo, k * 3 + 1, none⟩ = some (.int .i64 (mrow q k).im) ∧ W.cell? ⟨bo, k * 3 + 2, none⟩ = some (.int .i64 (mrow q k).den)) ((refine hSx _ ?_; exact below_)) (first | (go_at_call 19; (with_reducible refine (ti_k (mrow q k) (mrow q k) xv xo _ HX HO).mono ?_); rintro e w2 ⟨rfl, hb2⟩; have hB2 : Below wo.heap.size wo w2 := bstep (by exact below_) hb2 (by first | omega | (simp; done)); have hz2 := hB2.size; (first | (have hA2 : Blk w2 wo.heap.size (tbc [zK]) 25 := (hb2.block _ (by simp; done)).trans (heap_alloc_last _ _); obtain ⟨e0, e1, e2⟩ := blk_get hA2 (i := 0) (show 0 < 1 by decide); have e3 := blk_free hA2; simp only [Nat.zero_mul, Nat.zero_add] at e0 e1 e2) | skip); clear hb2))
        all_goals (try go_wp2)
        all_goals (go_meet; refine ⟨rfl, _, rfl, ?_, ?_, hT.below (show Below wo.heap.size wo _ by exact below_)⟩)
        all_goals first | omega | exact Nat.le_refl _ | exact heap_alloc_last _ _ | exact blk_put hA2 (i := 0) (show 0 < 1 by decide) xv
      clear hT a0 a1 a2
      rename World => wx
      obtain ⟨q12, bx, q11, hbx, hX, hT⟩ := hcut
      subst q11 q12
      obtain ⟨x0, x1, x2⟩ := blk_fr0 hX
      obtain ⟨f0, f1, f2⟩ := blk_fr0 hT.s
      go_upto_region 15 with (first | (go_at_call 20; (with_reducible refine (ai_k d.1 xv av ao _ HV HW).mono ?_); rintro e w3 ⟨rfl, hb3⟩))
      obtain ⟨bn, hbn⟩ : ∃ b, b = w3.heap.size := ⟨_, rfl⟩
      obtain ⟨W5, hW5, hT5, hN5⟩ : ∃ W, W = w3.alloc (.cells #[.int .i64 av.re, .int .i64 av.im, .int .i64 av.den] 25) ∧ RT w bo bs q d.1 W ∧ Blk W bn (frc av) 25 := by
        refine ⟨_, rfl, (hT.below hb3).below ((Below.refl _ _).alloc (Nat.le_refl _) _), ?_⟩
        rw [hbn]; exact heap_alloc_last w3 _
      rw [← hW5, ← hbn]
      clear hW5 hbn hb3 hT hX x0 x1 x2 f0 f1 f2 hbx
      go_cut [9] from 71 to 84 (fun s9 W => s9 = .bool (((!d.2) && xo) && ao) ∧ RT w bo bs q d.1 W ∧ Blk W bn (frc av) 25)
      case first =>
        obtain ⟨g0, g1, g2⟩ := blk_get (xs := row4 q) hT5.o (i := k) hkl
        have g1' : W5.cell? ⟨bo, k * 3 + 1, none⟩ = some (.int .i64 0) := by rw [← HIM.out k hkl]; exact g1
        clear g0 g1 g2
        have HT5 := Lib.hid hT5
        clear hT5
        cases hdv : d.2 <;> rcases xo with _ | _ <;> rcases ao with _ | _
        all_goals go_wp2
        all_goals (go_meet; exact ⟨by rw [hdv]; rfl, HT5.out, hN5⟩)
      clear hT5 hN5
      rename World => wy
      obtain ⟨q9, hT, hN⟩ := hcut
      subst q9
      obtain ⟨x0, x1, x2⟩ := blk_fr0 hN
      obtain ⟨f0, f1, f2⟩ := blk_fr0 hT.s
      have ff := blk_free hT.s
      go_wp2
      go_roundw
      case rel =>
        refine ⟨k + 1, by omega, by omega, by go_num, ?_, ?_⟩
        · rw [Nat.add_sub_cancel, HNX.out]
          show Value.bool (((!d.2) && xo) && ao) = Value.bool (!((d.2 || !xo) || !ao))
          rcases d.2 with _ | _ <;> rcases xo with _ | _ <;> rcases ao with _ | _ <;> rfl
        · rw [Nat.add_sub_cancel, HNX.out]
          exact hT.put av
      case measure => simp [intOf]; omega
    · obtain rfl : k = 4 := by omega
      have ha := HA.out
      obtain ⟨g0, g1, g2⟩ := blk_get (xs := row4 q) hT.o (i := 0) (show 0 < 4 by decide)
      rw [show (row4 q).getD 0 zK = q.a from rfl, ha] at g0 g1 g2
      simp only [Nat.zero_mul, Nat.zero_add] at g0 g1 g2
      obtain ⟨f0, f1, f2⟩ := blk_fr0 hT.s
      have hB := hT.B
      have hsum : d.2 = false → d.1 = ⟨1, 0, 4⟩ := fun h => by
        rw [HDD.out, HR3.out] at h ⊢
        exact HSQ.out h
      have HS := Lib.hid hsum
      clear hT hsum ha
      cases hd2 : d.2
      · rw [HS.out hd2] at f0 f1 f2
        clear hd2
        go_wp2
        go_ret
        exact ⟨rfl, by exact below_⟩
      · clear hd2
        go_wp2
        go_ret
        exact ⟨rfl, by exact below_⟩
end
end Go.Proofs.YtalcjmefmffcnaaDoor
