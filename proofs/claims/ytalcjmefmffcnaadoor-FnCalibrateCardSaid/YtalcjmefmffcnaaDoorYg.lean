/-
  The walk of the drawer of DrawMeterCalibrate.
-/
import Derived.Test.YtalcjmefmffcnaaDoorYf
import Derived.Test.YtalcjmefmffcnaaDoorTy
namespace Go.Proofs.YtalcjmefmffcnaaDoor
set_option linter.unusedSimpArgs false
set_option linter.unusedVariables false
open Go.RowKit
attribute [local go_sem ↓] Go.wp_at_zero Go.wp_at_succ
theorem flatS_push (ms : List Mt) (m : Mt) : flatS (ms ++ [m]) = flatS ms ++ row4 m := by simp [flatS]
theorem wp_appS {o : Oper} {a : Act} {K : Act → World → Prop} {Q : Exit → Act → World → Prop} (s x : Operand) (ho : o.op = .call { callee := .builtin .append, args := #[s, x], argTypes := #[38, 38] })
    (base : Nat) (v : Value) (ys : List Mt) (W : World) (hs : a.eval s = v) (hO : OwS base v ys W) (gb c : Nat) (z : Mt) (hx : a.eval x = .slice (some ⟨gb, 0, none⟩) 1 c)
    (hA : Blk W gb (mtc z) 44) (hlen : ys.length < 1000000) (hb : base ≤ W.heap.size)
    (h : ∀ v' w', OwS base v' (ys ++ [z]) w' → W.grownBy w' v.ownBlock → (v'.ownBlock = v.ownBlock ∨ v'.ownBlock = some W.heap.size) → K (a.put o.dst v') w') : o.wp Tryd.prog a W K Q := by
  obtain ⟨i0, hi, hz0, hz1, hz2⟩ := info_parts infoStk
  have hnews : ∀ j u, (rowF (row4 z))[j]? = some u → W.cell? ((⟨gb, 0, none⟩ : Addr).add j) = some u := by
    intro j u hj
    rw [add_noneF]
    have e : W.heap[gb]? = some (.cells (rowF (row4 z)).toArray 44 (0, 0)) := hA
    simp [World.cell?, e, hj]
  obtain ⟨v', w', hr, h2, h3, h4, h5⟩ := run_append_own_at (P := Tryd.prog) W base 38 o.type 44 i0 (.agg #[.int .i64 0, .int .i64 0, .int .i64 0, .int .i64 0, .int .i64 0, .int .i64 0, .int .i64 0, .int .i64 0, .int .i64 0, .int .i64 0, .int .i64 0, .int .i64 0]) 12 96 Tryd.underlying38 hi hz0 hz1 hz2 rfl (by decide) v ys.length (rowF (flatS ys)) hO ⟨gb, 0, none⟩ 1 c (rowF (row4 z)) (by rw [rowF_length]; rfl) hnews (rowF_one' _) (by unfold maxLen; omega) (by omega) hb
  unfold Oper.wp execOp
  simp only [ho, resolve, invoke, builtin, Sem.run_bind, Sem.run_pure, Result.andThen_ok, List.map_toArray, List.map_cons, List.map_nil, hs, hx, hr]
  refine h v' w' ?_ h3 h5
  unfold OwS
  rw [flatS_push, rowF_append, List.length_append]
  exact h2
theorem wpList_appS {ops : Array Oper} {rest : List Oper} {o : Oper} {a : Act} {Q : Exit → Act → World → Prop} (hgd : o.guard = none) (s x : Operand) (ho : o.op = .call { callee := .builtin .append, args := #[s, x], argTypes := #[38, 38] })
    (base : Nat) (v : Value) (ys : List Mt) (W : World) (hs : a.eval s = v) (hO : OwS base v ys W) (gb c : Nat) (z : Mt) (hx : a.eval x = .slice (some ⟨gb, 0, none⟩) 1 c)
    (hA : Blk W gb (mtc z) 44) (hlen : ys.length < 1000000) (hb : base ≤ W.heap.size)
    (h : ∀ v' w', OwS base v' (ys ++ [z]) w' → W.grownBy w' v.ownBlock → (v'.ownBlock = v.ownBlock ∨ v'.ownBlock = some W.heap.size) → wpList Tryd.prog ops Q rest (a.put o.dst v') w') : wpList Tryd.prog ops Q (o :: rest) a W :=
  wpList_plain hgd fun _ hK => wp_appS s x ho base v ys W hs hO gb c z hx hA hlen hb fun v' w' h2 h3 h4 => hK _ _ (h v' w' h2 h3 h4)
theorem OwS.belX {base br : Nat} {v : Value} {xs : List Mt} {w w' : World} (h : OwS base v xs w) (hb : BelX w.heap.size br w w') (hne : br < base) : OwS base v xs w' := by
  refine ⟨h.1, ?_⟩
  rcases h.2 with hn | ⟨g, cap, cur, rfl, hbg, hg, rest⟩
  · exact .inl hn
  · exact .inr ⟨g, cap, cur, rfl, hbg, (hb.block g (Array.getElem?_eq_some_iff.1 hg).1 (by omega)).trans hg, rest⟩
theorem OwF.belXc {base br : Nat} {v : Value} {xs : List Fr} {w w' : World} (h : OwF base v xs w) (hb : BelX w.heap.size br w w') (hne : br < base) : OwF base v xs w' := by
  refine ⟨h.1, ?_⟩
  rcases h.2 with hn | ⟨g, cap, cur, rfl, hbg, hg, rest⟩
  · exact .inl hn
  · exact .inr ⟨g, cap, cur, rfl, hbg, (hb.block g (Array.getElem?_eq_some_iff.1 hg).1 (by omega)).trans hg, rest⟩
theorem OwS.made (w : World) (base : Nat) (hb : base ≤ w.heap.size) : OwS base (.slice (some ⟨w.heap.size, 0, none⟩) 0 0) [] (w.alloc (.cells #[] 44)) :=
  World.ownsRow_made (size := 12) w #[] 0 hb (by unfold maxLen; omega) rfl
theorem OwS.mono {base base' : Nat} {v : Value} {xs : List Mt} {w : World} (h : OwS base v xs w) (hb : base' ≤ base) : OwS base' v xs w := by
  refine ⟨h.1, ?_⟩
  rcases h.2 with hn | ⟨g, cap, cur, rfl, hbg, hg, rest⟩
  · exact .inl hn
  · exact .inr ⟨g, cap, cur, rfl, by omega, hg, rest⟩
theorem OwS.lt {base : Nat} {v : Value} {xs : List Mt} {w : World} (h : OwS base v xs w) : ∀ k, v.ownBlock = some k → base ≤ k ∧ k < w.heap.size := World.ownsRow.lt h
theorem OwS.grown {base : Nat} {v : Value} {xs : List Mt} {w w' : World} {row : Option Nat} (h : OwS base v xs w) (hg : w.grownBy w' row) (hne : v.ownBlock = none ∨ v.ownBlock ≠ row) : OwS base v xs w' := World.ownsRow.kept h hg hne
/-- What the rounds keep. -/
structure CA (w : World) (bs n : Nat) (s : Sta) (v u : Value) (ks : List Mt) (rs : List Fr) (W : World) : Prop where
  B : Below w.heap.size w W
  rd : RdIs W w.heap.size n
  st : Blk W bs #[.int .i64 s.p, .int .i64 s.q] 29
  S : OwS (w.heap.size + 1) v ks W
  F : OwF (w.heap.size + 1) u rs W
  vb : v.ownBlock ≠ some bs
  vu : ∀ b, v.ownBlock = some b → u.ownBlock ≠ some b
  ub : u.ownBlock ≠ some bs
  l : w.heap.size < bs
section
variable {w W W' : World} {bs n : Nat} {s : Sta} {v u v' u' : Value} {ks : List Mt} {rs : List Fr}
theorem CA.below (h : CA w bs n s v u ks rs W) (hb : Below W.heap.size W W') : CA w bs n s v u ks rs W' :=
  ⟨bstep h.B hb h.B.size, h.rd.below hb h.rd.lt, (hb.block _ (blk_lt h.st)).trans h.st, h.S.below hb, h.F.below hb, h.vb, h.vu, h.ub, h.l⟩
theorem CA.belX (h : CA w bs n s v u ks rs W) {m : Nat} (hb : BelX W.heap.size w.heap.size W W') (hr : RdIs W' w.heap.size m) : CA w bs m s v u ks rs W' :=
  ⟨(BelX.step (BelX.of h.B) hb h.B.size).below (Nat.le_refl _), hr, (hb.block _ (blk_lt h.st) (by have := h.l; omega)).trans h.st, h.S.belX hb (by omega), OwF.belXc h.F hb (by omega), h.vb, h.vu, h.ub, h.l⟩
theorem CA.appS (h : CA w bs n s v u ks rs W) {z : Mt} (hO : OwS (w.heap.size + 1) v' (ks ++ [z]) W') (hg : W.grownBy W' v.ownBlock) (hv : v'.ownBlock = v.ownBlock ∨ v'.ownBlock = some W.heap.size) : CA w bs n s v' u (ks ++ [z]) rs W' := by
  have hbl : bs < W.heap.size := blk_lt h.st
  have hrl := h.rd.lt
  refine ⟨h.B.grown hg h.B.size (fun k e => by have := (h.S.lt k e).1; omega), h.rd.below ((Below.refl (w.heap.size + 1) W).grown hg (by omega) (fun k e => (h.S.lt k e).1)) (Nat.lt_succ_self _), (hg.block _ hbl (fun e => h.vb e.symm)).trans h.st, hO, h.F.grown hg ?_, ?_, ?_, h.ub, h.l⟩
  · cases hu : u.ownBlock with
    | none => exact .inl rfl
    | some b => exact .inr fun e => h.vu b e.symm hu
  · rcases hv with e | e
    · rw [e]; exact h.vb
    · rw [e]; intro e2; have := Option.some.inj e2; omega
  · intro b hb hu
    rcases hv with e | e
    · exact h.vu b (e ▸ hb) hu
    · rw [e] at hb
      have := (h.F.lt b hu).2
      have := Option.some.inj hb
      omega
theorem CA.appF (h : CA w bs n s v u ks rs W) {ys : List Fr} (hO : OwF (w.heap.size + 1) u' ys W') (hg : W.grownBy W' u.ownBlock) (hv : u'.ownBlock = u.ownBlock ∨ u'.ownBlock = some W.heap.size) : CA w bs n s v u' ks ys W' := by
  have hbl : bs < W.heap.size := blk_lt h.st
  have hrl := h.rd.lt
  refine ⟨h.B.grown hg h.B.size (fun k e => by have := (h.F.lt k e).1; omega), h.rd.below ((Below.refl (w.heap.size + 1) W).grown hg (by omega) (fun k e => (h.F.lt k e).1)) (Nat.lt_succ_self _), (hg.block _ hbl (fun e => h.ub e.symm)).trans h.st, h.S.grown hg ?_, hO, h.vb, ?_, ?_, h.l⟩
  · cases hu : v.ownBlock with
    | none => exact .inl rfl
    | some b => exact .inr fun e => h.vu b hu e.symm
  · intro b hb hu
    rcases hv with e | e
    · exact h.vu b hb (e ▸ hu)
    · rw [e] at hu
      have := (h.S.lt b hb).2
      have := Option.some.inj hu
      omega
  · rcases hv with e | e
    · rw [e]; exact h.ub
    · rw [e]; intro e2; have := Option.some.inj e2; omega
theorem CA.fresh (h : CA w bs n s v u ks rs W) (b : Nat) (hb : W.heap.size ≤ b) : v.ownBlock ≠ some b ∧ u.ownBlock ≠ some b :=
  ⟨fun e => by have := (h.S.lt b e).2; omega, fun e => by have := (h.F.lt b e).2; omega⟩
end
theorem readM_len {s : Sta} {m : Mt} {o : List Fr} (h : readM [s] m = some o) : o.length = 1 := by
  obtain ⟨-, -, -, rfl⟩ := read_some h
  rfl
theorem sas_one {W : World} {b : Nat} {s : Sta} (h : Blk W b #[.int .i64 s.p, .int .i64 s.q] 29) : Sas (some ⟨b, 0, none⟩) 1 1 [s] W := by
  refine ⟨rfl, Nat.le_refl _, by decide, fun _ => ⟨b, 0, rfl, blk_lt h, fun i x hi => ?_⟩⟩
  match i, hi with
  | 0, hi =>
    obtain rfl := Option.some.inj hi
    exact ⟨by simp [World.cell?, h], by simp [World.cell?, h]⟩
theorem sread_e (A : Option Addr) (s : Sta) (m : Mt) (w : World) (hS : Sas A 1 1 [s] w) :
    Calls Tryd.prog 40 #[.slice A 1 1, mtv m] w fun e w' => ∃ (v : Value) (ok : Bool) (out : List Fr), e = .returned (.tuple #[v, .bool ok]) ∧ (ok = true → out.length = 1) ∧ OwF w.heap.size v out w' ∧ Below w.heap.size w w' :=
  (sread_any A 1 1 [s] m w hS).mono fun e w' ⟨⟨v, he, hO⟩, hb⟩ => ⟨v, _, _, he, fun h => by
    cases hr : readM [s] m with
    | none => rw [hr] at h; cases h
    | some o => exact readM_len hr, hO, hb⟩
set_option maxRecDepth 100000 in
set_option maxHeartbeats 8000000 in
theorem drawMeterCalibrate_any (A : Option Addr) (len cap : Nat) (w : World) (hby : Bytes A len cap w) :
    Calls Tryd.prog 21 #[.slice A len cap] w fun e w' => ∃ (ks : List Mt) (rs : List Fr) (v u : Value), e = .returned (.tuple #[v, u]) ∧ (OwS w.heap.size v ks w' ∧ ks.length ≤ 4 ∧ OwF w.heap.size u rs w' ∧ rs.length ≤ 4) ∧ Below w.heap.size w w' := by
  go_enter Tryd.func21, Tryd.ntmps21
  go_wp2_with (go_at_call 60; (with_reducible refine (openB A len cap _ w.heap.size rfl hby).mono ?_); rintro e w1 ⟨rfl, hr1, hb⟩; refine Hid.out ?_)
  refine Lib.hid ?_
  have hz1 := hr1.lt
  have hS0 := (OwS.made w1 (w.heap.size + 1) (by omega)).alloc (.cells #[] 25)
  have hF0 := OwF.made (w1.alloc (.cells #[] 44)) (w.heap.size + 1) (by simp; omega)
  rw [World.size_alloc] at hF0
  have hr2 := (hr1.alloc (.cells #[] 44)).alloc (.cells #[] 25)
  have hB2 : Below w.heap.size w ((w1.alloc (.cells #[] 44)).alloc (.cells #[] 25)) := (hb.alloc hb.size _).alloc (by have := hb.size; simp; omega) _
  go_upto_region 5 with (go_at_call 59; (with_reducible refine (dstation_any w.heap.size _ (RdEx.of hr2 (by omega))).mono ?_); rintro e w3 ⟨s, rfl, ⟨hu, hX⟩, -⟩)
  have hr3 := hu _ hr2
  have hS3 := hS0.belX hX (by omega)
  have hF3 := OwF.belXc hF0 hX (by omega)
  have hB3 : Below w.heap.size w w3 := (BelX.step (BelX.of hB2) hX hB2.size).below (Nat.le_refl _)
  have hz3 := hX.size
  simp only [World.size_alloc] at hz3
  obtain ⟨bs, hbs⟩ : ∃ b, b = w3.heap.size := ⟨_, rfl⟩
  obtain ⟨v, hv⟩ : ∃ v : Value, v = .slice (some ⟨w1.heap.size, 0, none⟩) 0 0 := ⟨_, rfl⟩
  obtain ⟨u, huu⟩ : ∃ v : Value, v = .slice (some ⟨w1.heap.size + 1, 0, none⟩) 0 0 := ⟨_, rfl⟩
  obtain ⟨n0, hn0⟩ : ∃ n, n = 0 + 3 := ⟨_, rfl⟩
  obtain ⟨W3, hW3, hC⟩ : ∃ W, W = w3.alloc (.cells #[.int .i64 s.p, .int .i64 s.q] 29) ∧ CA w bs n0 s v u [] [] W := by
    refine ⟨_, rfl, hB3.alloc hB3.size _, by rw [hn0]; exact hr3.alloc _, by rw [hbs]; exact heap_alloc_last w3 _, by rw [hv]; exact hS3.alloc _, by rw [huu]; exact hF3.alloc _, ?_, ?_, ?_, by omega⟩
    · rw [hv]; intro e; have h9 : w1.heap.size = bs := Option.some.inj e; omega
    · rw [hv, huu]; intro b e e2; have h8 : w1.heap.size = b := Option.some.inj e; have h9 : w1.heap.size + 1 = b := Option.some.inj e2; omega
    · rw [huu]; intro e; have h9 : w1.heap.size + 1 = bs := Option.some.inj e; omega
  rw [← hW3, ← hbs, ← hv, ← huu]
  clear hW3 hbs hv huu hz3 hB3 hF3 hS3 hr3 hX hu hB2 hr2 hF0 hS0 hz1 hb hr1
  go_wp2
  go_loopw [5, 6, 8, 9, 10, 11] (fun v u i _ _ _ wr => ∃ (k : Nat) (ks : List Mt) (rs : List Fr), k ≤ 4 ∧ i = .int .i64 k ∧ Hid (ks.length ≤ k ∧ rs.length ≤ k) ∧ CA w bs (n0 + 4 * k) s v u ks rs wr) (fun _ _ i _ _ _ _ => 4 - (intOf i).toNat)
  case atStart => exact ⟨0, [], [], by omega, rfl, Lib.hid ⟨by simp, by simp⟩, hC⟩
  case round =>
    clear hC
    rename World => wr
    obtain ⟨k, ks, rs, hk, rfl, hl, hC⟩ := hrel
    by_cases hk4 : k < 4
    · go_upto_region 9 with (go_at_call 63; (with_reducible refine (dlight_any w.heap.size _ (RdEx.of hC.rd (by omega))).mono ?_); rintro e w4 ⟨m, rfl, ⟨hu, hX⟩, -⟩)
      have hC4 := (hC.belX hX (hu _ hC.rd)).below ((Below.refl _ _).alloc (Nat.le_refl _) (.cells #[.int .i64 m.a.re, .int .i64 m.a.im, .int .i64 m.a.den, .int .i64 m.b.re, .int .i64 m.b.im, .int .i64 m.b.den, .int .i64 m.c.re, .int .i64 m.c.im, .int .i64 m.c.den, .int .i64 m.d.re, .int .i64 m.d.im, .int .i64 m.d.den] 44))
      have hbm : Blk (w4.alloc (.cells (mtc m) 44)) w4.heap.size (mtc m) 44 := heap_alloc_last w4 _
      obtain ⟨m0, m1, m2, m3, m4, m5, m6, m7, m8, m9, m10, m11⟩ := MtAt.new w4 m 44
      obtain ⟨bm, hbm2⟩ : ∃ b, b = w4.heap.size := ⟨_, rfl⟩
      have hbmz : w.heap.size < bm := by have := hX.size; have := hC.l; have := blk_lt hC.st; omega
      have hbmb : bm ≠ bs := by have := hX.size; have := blk_lt hC.st; omega
      have hfr := hC4.fresh
      obtain ⟨W4, hW4, hW4'⟩ : ∃ W, W = w4.alloc (.cells (mtc m) 44) ∧ W = w4.alloc (.cells #[.int .i64 m.a.re, .int .i64 m.a.im, .int .i64 m.a.den, .int .i64 m.b.re, .int .i64 m.b.im, .int .i64 m.b.den, .int .i64 m.c.re, .int .i64 m.c.im, .int .i64 m.c.den, .int .i64 m.d.re, .int .i64 m.d.im, .int .i64 m.d.den] 44) := ⟨_, rfl, rfl⟩
      have hfm := (hC.belX hX (hu _ hC.rd)).fresh w4.heap.size (Nat.le_refl _)
      rw [← hbm2] at hbm m0 m1 m2 m3 m4 m5 m6 m7 m8 m9 m10 m11 hfm
      rw [← hW4] at hbm
      rw [← hW4'] at hC4 m0 m1 m2 m3 m4 m5 m6 m7 m8 m9 m10 m11
      rw [← hW4', ← hbm2]
      clear hW4 hW4' hbm2 hX hu hC hfr
      have hl1 := hl.out.1
      have hC5 := hC4.below ((Below.refl _ _).alloc (Nat.le_refl _) (.cells (mtc m) 44))
      have hz5 : w.heap.size + 1 ≤ (W4.alloc (.cells (mtc m) 44)).heap.size := by have := hC4.rd.lt; simp; omega
      have hbm5 : Blk (W4.alloc (.cells (mtc m) 44)) bm (mtc m) 44 := (Below.heap_alloc _ _ _ (blk_lt hbm)).trans hbm
      have HL1 := Lib.hid hl1
      clear hl1
      go_wp2_with (at_builtin; refine wpList_appS rfl (.tmp 24) (.tmp 26) rfl (w.heap.size + 1) _ ks _ (by rfl) hC5.S W4.heap.size 1 m (by rfl) (heap_alloc_last W4 _) (by have := HL1.out; omega) hz5 ?_; intro v2 w5 hO5 hg5 hv5; refine Hid.out ?_)
      refine Lib.hid ?_
      have hC6 := hC5.appS hO5 hg5 hv5
      have hbm6 := (hg5.block bm (blk_lt hbm5) (fun e => hfm.1 e.symm)).trans hbm5
      clear hO5 hg5 hv5 hC5 hC4 hz5 hbm5 hbm m0 m1 m2 m3 m4 m5 m6 m7 m8 m9 m10 m11
      have hM6 : MtAt w5 bm m := by
        have h := fun i (hi : i < 4) => blk_get (xs := row4 m) hbm6 (i := i) hi
        obtain ⟨a0, a1, a2⟩ := h 0 (by omega)
        obtain ⟨a3, a4, a5⟩ := h 1 (by omega)
        obtain ⟨a6, a7, a8⟩ := h 2 (by omega)
        obtain ⟨a9, a10, a11⟩ := h 3 (by omega)
        exact ⟨a0, a1, a2, a3, a4, a5, a6, a7, a8, a9, a10, a11⟩
      obtain ⟨m0, m1, m2, m3, m4, m5, m6, m7, m8, m9, m10, m11⟩ := hM6
      have hs0 : w5.cell? ⟨bs, 0, none⟩ = some (.int .i64 s.p) ∧ w5.cell? ⟨bs, 1, none⟩ = some (.int .i64 s.q) := by
        have hst := hC6.st
        exact ⟨by simp [World.cell?, hst], by simp [World.cell?, hst]⟩
      obtain ⟨c0, c1⟩ := hs0
      have hC7 := hC6.below ((Below.refl _ _).alloc (Nat.le_refl _) (.cells #[.int .i64 s.p, .int .i64 s.q] 29))
      have hbl := blk_lt hC6.st
      have hbl2 := blk_lt hbm6
      go_upto_region 11 with (first | (go_at_call 40; (with_reducible refine (sread_e _ s m _ (sas_one (heap_alloc_last w5 _))).mono ?_); rintro e w6 ⟨v6, ok, out, rfl, hok, hO6, hb6⟩))
      have hC8 := hC7.below hb6
      have HOK := Lib.hid hok
      clear hC7 hC6 hb6 hok c0 c1 m0 m1 m2 m3 m4 m5 m6 m7 m8 m9 m10 m11 hbm6 hbl hbl2
      rcases ok with _ | _
      · go_wp2
        go_roundw
        case rel => exact ⟨k + 1, ks ++ [m], rs, by omega, by go_num, Lib.hid (by have := hl.out; simp only [List.length_append, List.length_singleton]; omega), by rw [show n0 + 4 * (k + 1) = n0 + 4 * k + 4 by omega]; exact hC8⟩
        case measure => simp [intOf]; omega
      · obtain ⟨z, rfl⟩ := List.length_eq_one_iff.1 (HOK.out rfl)
        obtain ⟨A6, c6, rfl, hF6⟩ := hO6.frs
        obtain ⟨-, hca, hcm, h4⟩ := hF6
        obtain ⟨bb, off, rfl, hbb, hat⟩ := h4 (by simp)
        obtain ⟨f0, f1, f2⟩ := hat 0 z rfl
        simp only [Nat.zero_mul, Nat.add_zero] at f0 f1 f2
        have hC9 := hC8.below ((Below.refl _ _).alloc (Nat.le_refl _) (.cells #[.int .i64 z.re, .int .i64 z.im, .int .i64 z.den] 25))
        have hz9 : w.heap.size + 1 ≤ (w6.alloc (.cells #[.int .i64 z.re, .int .i64 z.im, .int .i64 z.den] 25)).heap.size := by have := hC8.rd.lt; simp; omega
        have hzb : ∃ bb off : Nat, some (⟨w6.heap.size, 0, none⟩ : Addr) = some ⟨bb, off, none⟩ ∧ ∀ i x, [z][i]? = some x → FAt (w6.alloc (.cells #[.int .i64 z.re, .int .i64 z.im, .int .i64 z.den] 25)) bb (off + i * 3) x := by
          refine ⟨_, 0, rfl, fun i x hi => ?_⟩
          match i, hi with
          | 0, hi =>
            obtain rfl := Option.some.inj hi
            have hf : Blk (w6.alloc (.cells #[.int .i64 z.re, .int .i64 z.im, .int .i64 z.den] 25)) w6.heap.size (frc z) 25 := heap_alloc_last w6 _
            exact blk_fr0 hf
        have HL2 := Lib.hid (show rs.length + 1 < 4000000 by have := hl.out; omega)
        clear h4 hat hO6 hC8
        go_wp2_with (at_builtin; go_loud (refine wpList_appF rfl (.tmp 36) (.tmp 40) rfl (w.heap.size + 1) _ rs _ (by rfl) hC9.F (some ⟨w6.heap.size, 0, none⟩) 1 1 [z] (by rfl) rfl hzb HL2.out hz9 ?_); intro u2 w7 hO7 hg7 hv7; refine Hid.out ?_)
        refine Lib.hid ?_
        have hC10 := hC9.appF hO7 hg7 hv7
        clear hO7 hg7 hv7 hC9 hzb f0 f1 f2
        go_wp2
        go_roundw
        case rel => exact ⟨k + 1, ks ++ [m], rs ++ [z], by omega, by go_num, Lib.hid (by have := hl.out; simp only [List.length_append, List.length_singleton]; omega), by rw [show n0 + 4 * (k + 1) = n0 + 4 * k + 4 by omega]; exact hC10⟩
        case measure => simp [intOf]; omega
    · go_wp2
      go_ret2
      exact ⟨ks, rs, _, _, rfl, ⟨hC.S.mono (by omega), by have := hl.out; omega, hC.F.mono (by omega), by have := hl.out; omega⟩, hC.B⟩
end Go.Proofs.YtalcjmefmffcnaaDoor
