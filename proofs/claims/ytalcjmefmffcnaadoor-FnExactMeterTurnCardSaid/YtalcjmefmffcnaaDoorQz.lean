/-
  Texts of this claim, joined: Za; Zb; Zc. Nothing is claimed here; the other texts of this claim use it.
-/
import Derived.Test.YtalcjmefmffcnaaDoorQm
import Derived.Test.YtalcjmefmffcnaaDoorYb
import Derived.Test.YtalcjmefmffcnaaDoorTz
import Derived.Test.YtalcjmefmffcnaaDoorPc
import Derived.Test.YtalcjmefmffcnaaDoorEq
import Derived.BigQuiet
import Derived.Deep.CutRange
namespace Go.Proofs.YtalcjmefmffcnaaDoor
set_option linter.unusedSimpArgs false
set_option linter.unusedVariables false
section
open Go.RowKit
attribute [local go_sem ↓] Go.wp_at_zero Go.wp_at_succ
theorem wpList_appFt {ops : Array Oper} {rest : List Oper} {o : Oper} {a : Act} {Q : Exit → Act → World → Prop} (hgd : o.guard = none) (s x : Operand) (ho : o.op = .call { callee := .builtin .append, args := #[s, x], argTypes := #[39, 39] })
    (base : Nat) (v : Value) (ys : List Fr) (W : World) (hs : a.eval s = v) (hO : OwF base v ys W) (gb c : Nat) (z : Fr) (hx : a.eval x = .slice (some ⟨gb, 0, none⟩) 1 c)
    (hA : Blk W gb (frc z) 25) (hlen : ys.length < 1000000) (hb : base ≤ W.heap.size)
    (h : ∀ v' w', OwF base v' (ys ++ [z]) w' → W.grownBy w' v.ownBlock → (v'.ownBlock = v.ownBlock ∨ v'.ownBlock = some W.heap.size) → wpList Tryd.prog ops Q rest (a.put o.dst v') w') : wpList Tryd.prog ops Q (o :: rest) a W :=
  wpList_plain hgd fun _ hK => wp_appF s x ho base v ys W hs hO (some ⟨gb, 0, none⟩) 1 c [z] hx rfl ⟨gb, 0, rfl, fun i u hu => by
    match i, hu with
    | 0, hu =>
      obtain rfl := Option.some.inj hu
      exact blk_get (xs := [z]) hA (i := 0) (show 0 < 1 by decide)⟩ (by omega) hb fun v' w' h2 h3 h4 => hK _ _ (h v' w' h2 h3 h4)
/-- The same where the new fraction has just been laid. -/
theorem append_frB {ops : Array Oper} {rest : List Oper} {o : Oper} {a : Act} {Q : Exit → Act → World → Prop} (hgd : o.guard = none) (s x : Operand)
    (ho : o.op = .call { callee := .builtin .append, args := #[s, x], argTypes := #[39, 39] }) (base : Nat) (v : Value) (ys : List Fr) (W : World) (hs : a.eval s = v) (hO : OwF base v ys W) (z : Fr)
    (hx : a.eval x = .slice (some ⟨W.heap.size, 0, none⟩) 1 1) (hlen : ys.length < 1000000) (hb : base ≤ W.heap.size)
    (h : ∀ v' w', OwF base v' (ys ++ [z]) w' → W.grownBy w' v.ownBlock → (v'.ownBlock = v.ownBlock ∨ ∃ k, v'.ownBlock = some k ∧ W.heap.size ≤ k) → wpList Tryd.prog ops Q rest (a.put o.dst v') w') :
    wpList Tryd.prog ops Q (o :: rest) a (W.alloc (.cells #[.int .i64 z.re, .int .i64 z.im, .int .i64 z.den] 25)) :=
  wpList_appFt hgd s x ho base v ys _ hs (hO.alloc _) W.heap.size 1 z hx (heap_alloc_last W _) hlen (by simp; omega) fun v' w' h2 h3 h4 => h v' w' h2 (grownBy_transF (World.grownBy_alloc _ _ _) h3) (by
    rcases h4 with e | e
    · exact .inl e
    · exact .inr ⟨_, e, by simp⟩)
/-- What the rounds keep: the four numbers, the row, the table, the readings. -/
structure TV (w : World) (b4 bq bT : Nat) (u q : Mt) (T : List Fr) (v : Value) (L : List Fr) (W : World) : Prop where
  B : Below w.heap.size w W
  m : Blk W b4 (mtc u) 44
  q : Blk W bq (mtc q) 26
  t : Blk W bT (tbc T) 84
  F : OwF w.heap.size v L W
  nm : v.ownBlock ≠ some b4
  nq : v.ownBlock ≠ some bq
  nt : v.ownBlock ≠ some bT
  l : w.heap.size ≤ b4 ∧ w.heap.size ≤ bq ∧ w.heap.size ≤ bT ∧ b4 ≠ bq ∧ b4 ≠ bT
section
variable {w W W' : World} {b4 bq bT : Nat} {u q u' : Mt} {T : List Fr} {v v' : Value} {L L' : List Fr}
theorem TV.below (h : TV w b4 bq bT u q T v L W) (hb : Below W.heap.size W W') : TV w b4 bq bT u q T v L W' :=
  ⟨bstep h.B hb h.B.size, (hb.block _ (blk_lt h.m)).trans h.m, (hb.block _ (blk_lt h.q)).trans h.q, (hb.block _ (blk_lt h.t)).trans h.t, h.F.below hb, h.nm, h.nq, h.nt, h.l⟩
theorem OwF.row (h : OwF w.heap.size v L W) {b : Nat} (hb : v.ownBlock ≠ some b) (cs : Array Value) : OwF w.heap.size v L (W.setRow b cs) := by
  refine ⟨h.1, ?_⟩
  rcases h.2 with hn | ⟨g, cap, cur, rfl, hbg, hg, rest⟩
  · exact .inl hn
  · exact .inr ⟨g, cap, cur, rfl, hbg, (setRow_far W b g cs (fun e => hb (by rw [← e]; rfl))).trans hg, rest⟩
theorem TV.put (h : TV w b4 bq bT u q T v L W) (u' : Mt) : TV w b4 bq bT u' q T v L (W.setRow b4 (mtc u')) :=
  ⟨below_setRow h.B h.l.1 _, setRow_heap _ _ _ _ _ _ h.m, (setRow_far _ _ _ _ (fun e => h.l.2.2.2.1 e.symm)).trans h.q, (setRow_far _ _ _ _ (fun e => h.l.2.2.2.2 e.symm)).trans h.t, h.F.row h.nm _, h.nm, h.nq, h.nt, h.l⟩
theorem TV.app (h : TV w b4 bq bT u q T v L W) (hO : OwF w.heap.size v' L' W') (hg : W.grownBy W' v.ownBlock) (hv : v'.ownBlock = v.ownBlock ∨ ∃ k, v'.ownBlock = some k ∧ W.heap.size ≤ k) : TV w b4 bq bT u q T v' L' W' := by
  have l1 := blk_lt h.m
  have l2 := blk_lt h.q
  have l3 := blk_lt h.t
  refine ⟨h.B.grown hg h.B.size (fun k e => (h.F.lt k e).1), (hg.block _ l1 (fun e => h.nm e.symm)).trans h.m, (hg.block _ l2 (fun e => h.nq e.symm)).trans h.q, (hg.block _ l3 (fun e => h.nt e.symm)).trans h.t, hO, ?_, ?_, ?_, h.l⟩
  · rcases hv with e | ⟨k, e, hk⟩
    · rw [e]; exact h.nm
    · rw [e]; intro e2; have := Option.some.inj e2; omega
  · rcases hv with e | ⟨k, e, hk⟩
    · rw [e]; exact h.nq
    · rw [e]; intro e2; have := Option.some.inj e2; omega
  · rcases hv with e | ⟨k, e, hk⟩
    · rw [e]; exact h.nt
    · rw [e]; intro e2; have := Option.some.inj e2; omega
theorem TV.cell (h : TV w b4 bq bT u q T v L W) : MtAt W b4 u ∧ MtAt W bq q := ⟨blk_m h.m, blk_m h.q⟩
end
theorem szStkM (m : Mt) : ((Tryd.prog).info? 44).map (·.size) = some (mtc m).size := by kernel_rfl
theorem mt_form (o : Option Mt) : ∃ R b, mtb o = .tuple #[mtv R, .bool b] ∧ b = o.isSome ∧ (∀ m, o = some m → R = m) ∧ (o = none → R = zm) := by
  cases o with
  | none => exact ⟨zm, false, rfl, rfl, fun m h => (by cases h), fun _ => rfl⟩
  | some m => exact ⟨m, true, rfl, rfl, fun k h => Option.some.inj h, fun h => by cases h⟩
theorem rot_c (p q : Int) (R : Mt) (b : Bool) (w : World) (e : Hid (mtb (rotI p q) = .tuple #[mtv R, .bool b])) : Calls Tryd.prog 81 #[.int .i64 p, .int .i64 q] w fun e w' => e = .returned (.tuple #[mtv R, .bool b]) ∧ Below w.heap.size w w' := by
  rw [← e.out]; exact rot_any p q w
theorem srot_c (p q : Int) (R : Mt) (b : Bool) (w : World) (e : Hid (mtb (rotI p q) = .tuple #[mtv R, .bool b])) : Calls Tryd.prog 75 #[.int .i64 p, .int .i64 q] w fun e w' => e = .returned (.tuple #[mtv R, .bool b]) ∧ Below w.heap.size w w' := by
  rw [← e.out]; exact srot_any p q w
theorem adj_c (m R : Mt) (b : Bool) (w : World) (e : Hid (mtb (madjI m) = .tuple #[mtv R, .bool b])) : Calls Tryd.prog 82 #[mtv m] w fun e w' => e = .returned (.tuple #[mtv R, .bool b]) ∧ Below w.heap.size w w' := by
  rw [← e.out]; exact madj_any m w
theorem sadj_c (m R : Mt) (b : Bool) (w : World) (e : Hid (mtb (madjI m) = .tuple #[mtv R, .bool b])) : Calls Tryd.prog 77 #[mtv m] w fun e w' => e = .returned (.tuple #[mtv R, .bool b]) ∧ Below w.heap.size w w' := by
  rw [← e.out]; exact smadj_any m w
theorem tab_c (m : Mt) (T : List Fr) (b : Bool) (w : World) (hG : GZ w) (e : Hid (tbb (tabM m) = .tuple #[.agg (tbc T), .bool b])) : Calls Tryd.prog 57 #[mtv m] w fun e w' => e = .returned (.tuple #[.agg (tbc T), .bool b]) ∧ Below w.heap.size w w' := by
  rw [← e.out]; exact tableOf_any m w hG
theorem stab_c (m : Mt) (T : List Fr) (b : Bool) (w : World) (e : Hid (tbb (tabM m) = .tuple #[.agg (tbc T), .bool b])) : Calls Tryd.prog 52 #[mtv m] w fun e w' => e = .returned (.tuple #[.agg (tbc T), .bool b]) ∧ Below w.heap.size w w' := by
  rw [← e.out]; exact y_tab m w
theorem tap_form (T : List Fr) (m : Mt) : ∃ N b, tkb (tapI T m) = .tuple #[.agg (mtc N), .bool b] ∧ b = (tapI T m).isSome ∧ (b = true → tapI T m = some N) := by
  cases h : tapI T m with
  | none => exact ⟨zm, false, rfl, rfl, fun h => by cases h⟩
  | some N => exact ⟨N, true, rfl, rfl, fun _ => rfl⟩
theorem apply_c (T : List Fr) (m N : Mt) (b : Bool) (w : World) (hT : Hid (T.length = 16)) (e : Hid (tkb (tapI T m) = .tuple #[.agg (mtc N), .bool b])) : Calls Tryd.prog 84 #[.agg (tbc T), .agg (mtc m)] w fun e w' => e = .returned (.tuple #[.agg (mtc N), .bool b]) ∧ Below w.heap.size w w' := by
  rw [← e.out]; exact apply_any T m hT.out w
theorem sapply_c (T : List Fr) (m N : Mt) (b : Bool) (w : World) (hT : Hid (T.length = 16)) (e : Hid (tkb (tapI T m) = .tuple #[.agg (mtc N), .bool b])) : Calls Tryd.prog 79 #[.agg (tbc T), .agg (mtc m)] w fun e w' => e = .returned (.tuple #[.agg (mtc N), .bool b]) ∧ Below w.heap.size w w' := by
  rw [← e.out]; exact sapply_any T m hT.out w
/-- What MeterTurn's calls hand back, and what it hands back itself. -/
theorem turn_parts (m : Mt) (fr st : Sta) (n : Int) : ∃ (q R A : Mt) (T : List Fr) (ok ro ao tk : Bool), Hid (rwb (rowI fr) = .tuple #[mtv q, .bool ok]) ∧ Hid (mtb (rotI st.p st.q) = .tuple #[mtv R, .bool ro]) ∧ Hid (mtb (madjI R) = .tuple #[mtv A, .bool ao]) ∧ Hid (tbb (tabM A) = .tuple #[.agg (tbc T), .bool tk]) ∧ Hid (T.length = 16) ∧
    Hid (ok = rowOk fr) ∧ Hid (ok = true → rowG fr = row4 q) ∧ Hid (ro = true → ao = false → tk = false) ∧ Hid (turnM m fr st n = if inB n 0 16 && mreal m && ok && ro && ao && tk then trnI (row4 q) T m n.toNat else none) := by
  obtain ⟨q, ok, hq, hok, hrow⟩ := row_parts fr
  obtain ⟨R, ro, hR, hro, hR1, -⟩ := mt_form (rotI st.p st.q)
  obtain ⟨A, ao, hA, hao, hA1, hA0⟩ := mt_form (madjI R)
  refine ⟨q, R, A, (tabM A).getD zs16, ok, ro, ao, (tabM A).isSome, Lib.hid hq, Lib.hid hR, Lib.hid hA, Lib.hid rfl, Lib.hid ?_, Lib.hid hok, Lib.hid hrow, Lib.hid ?_, Lib.hid ?_⟩
  · cases h : tabM A with
    | none => rfl
    | some t => exact tabM_len h
  · intro _ ha
    have : madjI R = none := by rw [ha] at hao; simpa using hao.symm
    rw [hA0 this, zero_tab]; rfl
  · cases h1 : inB n 0 16
    · rw [turnM_range h1]; simp
    cases h2 : mreal m
    · rw [turnM_real h2]; simp
    cases h3 : ok
    · rw [turnM_row (by rw [← hok, h3])]; simp
    cases h4 : ro
    · have : dirOk st.p st.q = false := by
        rw [hro] at h4
        unfold rotI at h4
        split at h4
        · cases h4
        · rename_i h; simpa using h
      rw [turnM_dir this]; simp
    have hd : dirOk st.p st.q = true := by
      rw [hro] at h4
      unfold rotI at h4
      split at h4
      · assumption
      · cases h4
    have hRR : R = rotM st.p st.q := hR1 _ (by unfold rotI; rw [if_pos hd])
    cases h5 : ao
    · rw [turnM_back (by rw [← hRR]; rw [h5] at hao; simpa using hao.symm)]; simp
    have hsome : (madjI (rotM st.p st.q)).isSome = true := by rw [← hRR, ← hao, h5]
    have hAA : A = adjR st.p st.q := by
      obtain ⟨b, hb⟩ := Option.isSome_iff_exists.1 hsome
      rw [adjR, hb]
      exact hA1 _ (by rw [hRR]; exact hb)
    cases h6 : tabM A with
    | none => rw [turnM_tab (by rw [← hAA]; exact h6)]; simp
    | some t =>
      rw [turnM_go h1 h2 (by rw [← hok, h3]) hd hsome (t := t) (by rw [← hAA]; exact h6), hrow h3]
      simp
set_option maxRecDepth 100000 in
set_option maxHeartbeats 16000000 in
theorem turn_any (m : Mt) (fr st : Sta) (n : Int) (w : World) (hGO : GO w) (hGZ : GZ w) (hGT : GT w) :
    Calls Tryd.prog 36 #[mtv m, stv fr, stv st, .int .i64 n] w fun e w' => (∃ v, e = .returned (.tuple #[v, .bool (turnM m fr st n).isSome]) ∧ OwF w.heap.size v ((turnM m fr st n).getD []) w') ∧ Below w.heap.size w w' := by
  obtain ⟨q, R, A, T, ok, ro, ao, tk, HQ, HR, HA, HT, HTL, HOK, HROW, HAO, HM⟩ := turn_parts m fr st n
  go_enter Tryd.func36, Tryd.ntmps36
  obtain ⟨W0, hW0, hT0, hf0⟩ : ∃ W, W = (((w.alloc (.cells #[.int .i64 m.a.re, .int .i64 m.a.im, .int .i64 m.a.den, .int .i64 m.b.re, .int .i64 m.b.im, .int .i64 m.b.den, .int .i64 m.c.re, .int .i64 m.c.im, .int .i64 m.c.den, .int .i64 m.d.re, .int .i64 m.d.im, .int .i64 m.d.den] 44)).alloc (.cells #[.int .i64 fr.p, .int .i64 fr.q] 29)).alloc (.cells #[.int .i64 st.p, .int .i64 st.q] 29)).alloc (.cells #[] 25) ∧ MH w ([] ++ [(w.heap.size, mtc m, 44)] ++ [(w.heap.size + 1, #[.int .i64 fr.p, .int .i64 fr.q], 29)] ++ [(w.heap.size + 1 + 1, #[.int .i64 st.p, .int .i64 st.q], 29)] ++ [(w.heap.size + 1 + 1 + 1, #[], 25)]) W ∧ OwF w.heap.size (.slice (some ⟨w.heap.size + 1 + 1 + 1, 0, none⟩) 0 0) [] W := by
    have h0 := ((((MH.start (w := w)).alloc (cs := mtc m) (ty := 44)).alloc (cs := #[.int .i64 fr.p, .int .i64 fr.q]) (ty := 29)).alloc (cs := #[.int .i64 st.p, .int .i64 st.q]) (ty := 29)).alloc (cs := #[]) (ty := 25)
    have h1 := OwF.made (((w.alloc (.cells (mtc m) 44)).alloc (.cells #[.int .i64 fr.p, .int .i64 fr.q] 29)).alloc (.cells #[.int .i64 st.p, .int .i64 st.q] 29)) w.heap.size (by simp; omega)
    simp only [World.size_alloc] at h0 h1
    exact ⟨_, rfl, h0, h1⟩
  go_upto_region 2 with fail
  rw [← hW0]
  clear hW0
  obtain ⟨c0, c1⟩ : W0.cell? ⟨w.heap.size + 1, 0, none⟩ = some (.int .i64 fr.p) ∧ W0.cell? ⟨w.heap.size + 1, 1, none⟩ = some (.int .i64 fr.q) := by
    have h := hT0.at (b := w.heap.size + 1) (cs := #[.int .i64 fr.p, .int .i64 fr.q]) (ty := 29) (by simp)
    exact ⟨by simp [World.cell?, h], by simp [World.cell?, h]⟩
  go_upto_region 3 with (first | (go_at_call 16; (with_reducible refine (row_m fr q ok _ (hGO.below hT0.B) (hGZ.below hT0.B) (hGT.below hT0.B) HQ).mono ?_); rintro e w1 ⟨rfl, hb⟩))
  obtain ⟨bq, hbq⟩ : ∃ b, b = w1.heap.size := ⟨_, rfl⟩
  obtain ⟨W1, hW1, hT1, hf1⟩ : ∃ W, W = w1.alloc (.cells #[.int .i64 q.a.re, .int .i64 q.a.im, .int .i64 q.a.den, .int .i64 q.b.re, .int .i64 q.b.im, .int .i64 q.b.den, .int .i64 q.c.re, .int .i64 q.c.im, .int .i64 q.c.den, .int .i64 q.d.re, .int .i64 q.d.im, .int .i64 q.d.den] 26) ∧ MH w ([] ++ [(w.heap.size, mtc m, 44)] ++ [(w.heap.size + 1, #[.int .i64 fr.p, .int .i64 fr.q], 29)] ++ [(w.heap.size + 1 + 1, #[.int .i64 st.p, .int .i64 st.q], 29)] ++ [(w.heap.size + 1 + 1 + 1, #[], 25)] ++ [(bq, mtc q, 26)]) W ∧ OwF w.heap.size (.slice (some ⟨w.heap.size + 1 + 1 + 1, 0, none⟩) 0 0) [] W := ⟨_, rfl, by rw [hbq]; exact (hT0.call hb).alloc, (hf0.below hb).alloc _⟩
  have hl1 : w.heap.size + 1 + 1 + 1 < bq := by have := hb.size; have := blk_lt (hT0.at (b := w.heap.size + 1 + 1 + 1) (cs := #[]) (ty := 25) (by simp)); omega
  rw [← hW1, ← hbq]
  clear hW1 hbq hb hT0 hf0
  clear c0 c1
  obtain ⟨c0, c1⟩ : W1.cell? ⟨w.heap.size + 1 + 1, 0, none⟩ = some (.int .i64 st.p) ∧ W1.cell? ⟨w.heap.size + 1 + 1, 1, none⟩ = some (.int .i64 st.q) := by
    have h := hT1.at (b := w.heap.size + 1 + 1) (cs := #[.int .i64 st.p, .int .i64 st.q]) (ty := 29) (by simp)
    exact ⟨by simp [World.cell?, h], by simp [World.cell?, h]⟩
  go_upto_region 4 with (first | (go_at_call 81; (with_reducible refine (rot_c st.p st.q R ro _ HR).mono ?_); rintro e w2 ⟨rfl, hb⟩))
  obtain ⟨bR, hbR⟩ : ∃ b, b = w2.heap.size := ⟨_, rfl⟩
  obtain ⟨W2, hW2, hT2, hf2⟩ : ∃ W, W = w2.alloc (.cells #[.int .i64 R.a.re, .int .i64 R.a.im, .int .i64 R.a.den, .int .i64 R.b.re, .int .i64 R.b.im, .int .i64 R.b.den, .int .i64 R.c.re, .int .i64 R.c.im, .int .i64 R.c.den, .int .i64 R.d.re, .int .i64 R.d.im, .int .i64 R.d.den] 78) ∧ MH w ([] ++ [(w.heap.size, mtc m, 44)] ++ [(w.heap.size + 1, #[.int .i64 fr.p, .int .i64 fr.q], 29)] ++ [(w.heap.size + 1 + 1, #[.int .i64 st.p, .int .i64 st.q], 29)] ++ [(w.heap.size + 1 + 1 + 1, #[], 25)] ++ [(bq, mtc q, 26)] ++ [(bR, mtc R, 78)]) W ∧ OwF w.heap.size (.slice (some ⟨w.heap.size + 1 + 1 + 1, 0, none⟩) 0 0) [] W := ⟨_, rfl, by rw [hbR]; exact (hT1.call hb).alloc, (hf1.below hb).alloc _⟩
  have hl2 : w.heap.size + 1 + 1 + 1 < bR := by have := hb.size; have := blk_lt (hT1.at (b := w.heap.size + 1 + 1 + 1) (cs := #[]) (ty := 25) (by simp)); omega
  rw [← hW2, ← hbR]
  clear hW2 hbR hb hT1 hf1
  clear c0 c1
  obtain ⟨r0, r1, r2, r3, r4, r5, r6, r7, r8, r9, r10, r11⟩ := blk_m (hT2.at (b := bR) (cs := mtc R) (ty := 78) (by simp))
  go_upto_region 5 with (first | (go_at_call 82; (with_reducible refine (adj_c R A ao _ HA).mono ?_); rintro e w3 ⟨rfl, hb⟩))
  obtain ⟨bA, hbA⟩ : ∃ b, b = w3.heap.size := ⟨_, rfl⟩
  obtain ⟨W3, hW3, hT3, hf3⟩ : ∃ W, W = w3.alloc (.cells #[.int .i64 A.a.re, .int .i64 A.a.im, .int .i64 A.a.den, .int .i64 A.b.re, .int .i64 A.b.im, .int .i64 A.b.den, .int .i64 A.c.re, .int .i64 A.c.im, .int .i64 A.c.den, .int .i64 A.d.re, .int .i64 A.d.im, .int .i64 A.d.den] 78) ∧ MH w ([] ++ [(w.heap.size, mtc m, 44)] ++ [(w.heap.size + 1, #[.int .i64 fr.p, .int .i64 fr.q], 29)] ++ [(w.heap.size + 1 + 1, #[.int .i64 st.p, .int .i64 st.q], 29)] ++ [(w.heap.size + 1 + 1 + 1, #[], 25)] ++ [(bq, mtc q, 26)] ++ [(bR, mtc R, 78)] ++ [(bA, mtc A, 78)]) W ∧ OwF w.heap.size (.slice (some ⟨w.heap.size + 1 + 1 + 1, 0, none⟩) 0 0) [] W := ⟨_, rfl, by rw [hbA]; exact (hT2.call hb).alloc, (hf2.below hb).alloc _⟩
  have hl3 : w.heap.size + 1 + 1 + 1 < bA := by have := hb.size; have := blk_lt (hT2.at (b := w.heap.size + 1 + 1 + 1) (cs := #[]) (ty := 25) (by simp)); omega
  rw [← hW3, ← hbA]
  clear hW3 hbA hb hT2 hf2
  clear r0 r1 r2 r3 r4 r5 r6 r7 r8 r9 r10 r11
  obtain ⟨r0, r1, r2, r3, r4, r5, r6, r7, r8, r9, r10, r11⟩ := blk_m (hT3.at (b := bA) (cs := mtc A) (ty := 78) (by simp))
  go_upto_region 6 with (first | (go_at_call 57; (with_reducible refine (tab_c A T tk _ (hGZ.below hT3.B) HT).mono ?_); rintro e w4 ⟨rfl, hb⟩) | (refine wpList_store_row rfl 84 _ _ rfl w4.heap.size (tbc T) rfl rfl 84 (#[.int .i64 0, .int .i64 0, .int .i64 0, .int .i64 0, .int .i64 0, .int .i64 0, .int .i64 0, .int .i64 0, .int .i64 0, .int .i64 0, .int .i64 0, .int .i64 0, .int .i64 0, .int .i64 0, .int .i64 0, .int .i64 0, .int .i64 0, .int .i64 0, .int .i64 0, .int .i64 0, .int .i64 0, .int .i64 0, .int .i64 0, .int .i64 0, .int .i64 0, .int .i64 0, .int .i64 0, .int .i64 0, .int .i64 0, .int .i64 0, .int .i64 0, .int .i64 0, .int .i64 0, .int .i64 0, .int .i64 0, .int .i64 0, .int .i64 0, .int .i64 0, .int .i64 0, .int .i64 0, .int .i64 0, .int .i64 0, .int .i64 0, .int .i64 0, .int .i64 0, .int .i64 0, .int .i64 0, .int .i64 0]) (heap_alloc_last w4 _) (szTab T HTL.out) (by rw [tbc_size, HTL.out]; rfl) (tbc_one _) ?_))
  obtain ⟨bT, hbT⟩ : ∃ b, b = w4.heap.size := ⟨_, rfl⟩
  obtain ⟨W4, hW4, hV⟩ : ∃ W, W = (w4.alloc (.cells #[.int .i64 0, .int .i64 0, .int .i64 0, .int .i64 0, .int .i64 0, .int .i64 0, .int .i64 0, .int .i64 0, .int .i64 0, .int .i64 0, .int .i64 0, .int .i64 0, .int .i64 0, .int .i64 0, .int .i64 0, .int .i64 0, .int .i64 0, .int .i64 0, .int .i64 0, .int .i64 0, .int .i64 0, .int .i64 0, .int .i64 0, .int .i64 0, .int .i64 0, .int .i64 0, .int .i64 0, .int .i64 0, .int .i64 0, .int .i64 0, .int .i64 0, .int .i64 0, .int .i64 0, .int .i64 0, .int .i64 0, .int .i64 0, .int .i64 0, .int .i64 0, .int .i64 0, .int .i64 0, .int .i64 0, .int .i64 0, .int .i64 0, .int .i64 0, .int .i64 0, .int .i64 0, .int .i64 0, .int .i64 0] 84)).setRow w4.heap.size (tbc T) ∧ TV w w.heap.size bq bT m q T (.slice (some ⟨w.heap.size + 1 + 1 + 1, 0, none⟩) 0 0) [] W := by
    refine ⟨_, rfl, ?_⟩
    have h := (hT3.call hb).put (z := #[.int .i64 0, .int .i64 0, .int .i64 0, .int .i64 0, .int .i64 0, .int .i64 0, .int .i64 0, .int .i64 0, .int .i64 0, .int .i64 0, .int .i64 0, .int .i64 0, .int .i64 0, .int .i64 0, .int .i64 0, .int .i64 0, .int .i64 0, .int .i64 0, .int .i64 0, .int .i64 0, .int .i64 0, .int .i64 0, .int .i64 0, .int .i64 0, .int .i64 0, .int .i64 0, .int .i64 0, .int .i64 0, .int .i64 0, .int .i64 0, .int .i64 0, .int .i64 0, .int .i64 0, .int .i64 0, .int .i64 0, .int .i64 0, .int .i64 0, .int .i64 0, .int .i64 0, .int .i64 0, .int .i64 0, .int .i64 0, .int .i64 0, .int .i64 0, .int .i64 0, .int .i64 0, .int .i64 0, .int .i64 0]) (cs := tbc T) (ty := 84)
    have hz := hb.size
    have hlt := blk_lt (hT3.at (b := bq) (cs := mtc q) (ty := 26) (by simp))
    have hl3 := blk_lt (hT3.at (b := w.heap.size + 1 + 1 + 1) (cs := #[]) (ty := 25) (by simp))
    have hF := ((hf3.below hb).alloc (.cells #[.int .i64 0, .int .i64 0, .int .i64 0, .int .i64 0, .int .i64 0, .int .i64 0, .int .i64 0, .int .i64 0, .int .i64 0, .int .i64 0, .int .i64 0, .int .i64 0, .int .i64 0, .int .i64 0, .int .i64 0, .int .i64 0, .int .i64 0, .int .i64 0, .int .i64 0, .int .i64 0, .int .i64 0, .int .i64 0, .int .i64 0, .int .i64 0, .int .i64 0, .int .i64 0, .int .i64 0, .int .i64 0, .int .i64 0, .int .i64 0, .int .i64 0, .int .i64 0, .int .i64 0, .int .i64 0, .int .i64 0, .int .i64 0, .int .i64 0, .int .i64 0, .int .i64 0, .int .i64 0, .int .i64 0, .int .i64 0, .int .i64 0, .int .i64 0, .int .i64 0, .int .i64 0, .int .i64 0, .int .i64 0] 84)).row (b := w4.heap.size) (fun e => by have e2 : w.heap.size + 1 + 1 + 1 = w4.heap.size := Option.some.inj e; omega) (tbc T)
    exact ⟨h.B, h.at (by simp), h.at (by simp), by rw [hbT]; exact h.at (by simp), hF, fun e => by have e2 : w.heap.size + 1 + 1 + 1 = w.heap.size := Option.some.inj e; omega, fun e => by have e2 : w.heap.size + 1 + 1 + 1 = bq := Option.some.inj e; omega, fun e => by have e2 : w.heap.size + 1 + 1 + 1 = bT := Option.some.inj e; omega, by omega⟩
  rw [← hW4, ← hbT]
  clear hW4 hbT hb hT3 hf3 r0 r1 r2 r3 r4 r5 r6 r7 r8 r9 r10 r11
  have hV5 := hV
  obtain ⟨z0, z1, z2, z3, z4, z5, z6, z7, z8, z9, z10, z11⟩ := blk_m hV.m
  cases hin : inB n 0 16
  · have HE : Hid (turnM m fr st n = none) := Lib.hid (by rw [HM.out, hin]; simp)
    have HIN := Lib.hid hin
    clear hin
    go_wp2_with (first | (go_at_call 83; (with_reducible refine (within_any n 0 16 _).mono ?_); rw [HIN.out]; rintro e w5 ⟨rfl, rfl⟩))
    have hO9 := hV.F
    have hB9 := hV.B
    go_ret2
    exact ⟨⟨_, by rw [HE.out]; rfl, by rw [HE.out]; exact hO9⟩, hB9⟩
  have HIN := Lib.hid hin
  clear hin
  cases hmr : mreal m
  · have HE : Hid (turnM m fr st n = none) := Lib.hid (by rw [HM.out, hmr]; simp)
    have HMR := Lib.hid hmr
    clear hmr
    go_wp2_with (first | (go_at_call 83; (with_reducible refine (within_any n 0 16 _).mono ?_); rw [HIN.out]; rintro e w5 ⟨rfl, rfl⟩) | (go_at_call 64; (with_reducible refine (stokes_any m _).mono ?_); rw [HMR.out]; rintro e w9 ⟨rfl, hb⟩; have hV5 := hV.below hb; clear hb))
    have hO9 := hV5.F
    have hB9 := hV5.B
    go_ret2
    exact ⟨⟨_, by rw [HE.out]; rfl, by rw [HE.out]; exact hO9⟩, hB9⟩
  have HMR := Lib.hid hmr
  clear hmr
  cases hok : ok
  · have HE : Hid (turnM m fr st n = none) := Lib.hid (by rw [HM.out, hok]; simp)
    go_wp2_with (first | (go_at_call 83; (with_reducible refine (within_any n 0 16 _).mono ?_); rw [HIN.out]; rintro e w5 ⟨rfl, rfl⟩) | (go_at_call 64; (with_reducible refine (stokes_any m _).mono ?_); rw [HMR.out]; rintro e w9 ⟨rfl, hb⟩; have hV5 := hV.below hb; clear hb))
    have hO9 := hV5.F
    have hB9 := hV5.B
    go_ret2
    exact ⟨⟨_, by rw [HE.out]; rfl, by rw [HE.out]; exact hO9⟩, hB9⟩
  cases hro : ro
  · have HE : Hid (turnM m fr st n = none) := Lib.hid (by rw [HM.out, hro]; simp)
    go_wp2_with (first | (go_at_call 83; (with_reducible refine (within_any n 0 16 _).mono ?_); rw [HIN.out]; rintro e w5 ⟨rfl, rfl⟩) | (go_at_call 64; (with_reducible refine (stokes_any m _).mono ?_); rw [HMR.out]; rintro e w9 ⟨rfl, hb⟩; have hV5 := hV.below hb; clear hb))
    have hO9 := hV5.F
    have hB9 := hV5.B
    go_ret2
    exact ⟨⟨_, by rw [HE.out]; rfl, by rw [HE.out]; exact hO9⟩, hB9⟩
  cases hao : ao
  · have HE : Hid (turnM m fr st n = none) := Lib.hid (by rw [HM.out, hao]; simp)
    go_wp2_with (first | (go_at_call 83; (with_reducible refine (within_any n 0 16 _).mono ?_); rw [HIN.out]; rintro e w5 ⟨rfl, rfl⟩) | (go_at_call 64; (with_reducible refine (stokes_any m _).mono ?_); rw [HMR.out]; rintro e w9 ⟨rfl, hb⟩; have hV5 := hV.below hb; clear hb))
    have hO9 := hV5.F
    have hB9 := hV5.B
    go_ret2
    exact ⟨⟨_, by rw [HE.out]; rfl, by rw [HE.out]; exact hO9⟩, hB9⟩
  cases htk : tk
  · have HE : Hid (turnM m fr st n = none) := Lib.hid (by rw [HM.out, htk]; simp)
    go_wp2_with (first | (go_at_call 83; (with_reducible refine (within_any n 0 16 _).mono ?_); rw [HIN.out]; rintro e w5 ⟨rfl, rfl⟩) | (go_at_call 64; (with_reducible refine (stokes_any m _).mono ?_); rw [HMR.out]; rintro e w9 ⟨rfl, hb⟩; have hV5 := hV.below hb; clear hb))
    have hO9 := hV5.F
    have hB9 := hV5.B
    go_ret2
    exact ⟨⟨_, by rw [HE.out]; rfl, by rw [HE.out]; exact hO9⟩, hB9⟩
  obtain ⟨N, rfl⟩ : ∃ N : Nat, n = N := ⟨n.toNat, by have := inB_iff.1 HIN.out; omega⟩
  have hN16 : N ≤ 16 := by have := inB_iff.1 HIN.out; omega
  have HM2 : Hid (turnM m fr st N = trnI (row4 q) T m N) := Lib.hid (by rw [HM.out, HIN.out, HMR.out, hok, hro, hao, htk]; simp)
  go_wp2_with (first | (go_at_call 83; (with_reducible refine (within_any N 0 16 _).mono ?_); rw [HIN.out]; rintro e w5 ⟨rfl, rfl⟩) | (go_at_call 64; (with_reducible refine (stokes_any m _).mono ?_); rw [HMR.out]; rintro e w9 ⟨rfl, hb⟩; have hV5 := hV.below hb; clear hb))
  clear z0 z1 z2 z3 z4 z5 z6 z7 z8 z9 z10 z11 hV
  go_loopw [10, 74] (fun v iv wr => ∃ (k : Nat) (u : Mt) (L : List Fr), k ≤ N ∧ iv = .int .i64 k ∧ TV w w.heap.size bq bT u q T v L wr ∧ Hid (trnI (row4 q) T m k = some L) ∧ Hid (tvI T m (k - 1) = some u)) (fun _ iv _ => N - (intOf iv).toNat)
  case atStart => exact ⟨0, m, [], Nat.zero_le _, rfl, hV5, Lib.hid rfl, Lib.hid rfl⟩
  case round =>
    clear hV5
    obtain ⟨k, u, L, hk, rfl, hV, hL, hu⟩ := hrel
    have hz := hV.B.size
    by_cases hkl : k < N
    · have hki : (k : Int) < (N : Int) := by omega
      by_cases hk0 : k = 0
      · subst hk0
        have hu0 : Hid (tvI T m 0 = some u) := hu
        clear hu
        obtain ⟨F, bd, hF⟩ : ∃ F bd, rdI (row4 q) u = (F, bd) := ⟨_, _, rfl⟩
        have HF := Lib.hid hF
        clear hF
        obtain ⟨WA, hWA⟩ : ∃ W, W = wr := ⟨_, rfl⟩
        rw [← hWA] at hV ⊢
        clear hWA
        have hs0 : SumIs (WA.alloc (.cells #[.bool false] 103)) WA.heap.size false := SumIs.new' rfl
        have hVs := hV.below ((Below.refl WA.heap.size WA).alloc (Nat.le_refl _) (.cells #[.bool false] 103))
        obtain ⟨y0, y1, y2, y3, y4, y5, y6, y7, y8, y9, y10, y11⟩ := blk_m hVs.q
        obtain ⟨z0, z1, z2, z3, z4, z5, z6, z7, z8, z9, z10, z11⟩ := blk_m hVs.m
        go_upto_region 18 with (first | (go_at_call 85; (with_reducible refine (x_read_m q u F bd WA.heap.size false _ hs0 HF).mono ?_); rintro e w6 ⟨rfl, hs6, hx⟩))
        have hx6 : Below WA.heap.size WA w6 := ((BelX.of ((Below.refl WA.heap.size WA).alloc (Nat.le_refl _) _)).trans (hx.mono (by simp))).below (Nat.le_refl _)
        have hVr := hV.below hx6
        clear hs0 hVs hx hx6 hV y0 y1 y2 y3 y4 y5 y6 y7 y8 y9 y10 y11 z0 z1 z2 z3 z4 z5 z6 z7 z8 z9 z10 z11
        obtain ⟨bF, hbF⟩ : ∃ b, b = w6.heap.size := ⟨_, rfl⟩
        obtain ⟨W7, hW7, hV7, hs7, hF7⟩ : ∃ W, W = w6.alloc (.cells #[.int .i64 F.re, .int .i64 F.im, .int .i64 F.den] 25) ∧ TV w w.heap.size bq bT u q T u10 L W ∧ SumIs W WA.heap.size (false || bd) ∧ Blk W bF (frc F) 25 := by
          refine ⟨_, rfl, hVr.below ((Below.refl _ _).alloc (Nat.le_refl _) _), hs6.alloc _, ?_⟩
          rw [hbF]; exact heap_alloc_last w6 _
        rw [← hW7, ← hbF]
        clear hW7 hbF hVr hs6
        have hcs := hs7.cell
        have hz7 := hV7.B.size
        have hFv := hV7.F
        obtain ⟨f0, f1, f2⟩ := blk_fr0 hF7
        have hrd : (rdI (row4 q) u).2 = bd := by rw [HF.out]
        have hLl : L.length < 1000000 := by rw [trn_len hL.out]; omega
        cases hbd : bd
        · rw [hbd] at hcs hrd
          have HNX : Hid (trnI (row4 q) T m (0 + 1) = some (L ++ [F])) := Lib.hid (by rw [trn_go hL.out hu0.out hrd, HF.out])
          clear hrd hs7
          go_wp2_with (at_builtin; refine append_frB rfl (.tmp 101) (.tmp 103) rfl w.heap.size _ L _ (by rfl) hFv F (by rfl) hLl hz7 ?_; intro v2 w8 hO8 hg8 hv8; refine Hid.out ?_)
          refine Lib.hid ?_
          have hV8 := hV7.app hO8 hg8 hv8
          clear hO8 hg8 hv8 hV7 hFv f0 f1 f2 hF7 hcs hz7
          go_wp2
          go_roundw
          case rel => exact ⟨0 + 1, u, L ++ [F], by omega, by go_num, hV8, HNX, hu0⟩
          case measure => simp [intOf]; omega
        · rw [hbd] at hcs hrd
          have he : turnM m fr st N = none := by rw [HM2.out, trn_bad hu0.out hrd hkl]
          have HE := Lib.hid he
          clear he hrd hs7
          have hO9 := OwF.made W7 w.heap.size hV7.B.size
          have hB9 := hV7.B.alloc hV7.B.size (.cells #[] 25)
          go_wp2
          go_ret2
          exact ⟨⟨_, by rw [HE.out]; rfl, by rw [HE.out]; exact hO9⟩, hB9⟩
      · have hkp : (0 : Int) < (k : Int) := by omega
        obtain ⟨X, nb, hN1, hN2, hN3⟩ := tap_form T u
        have HN1 := Lib.hid hN1
        have HN2 := Lib.hid hN2
        have HN3 := Lib.hid hN3
        have htv : tvI T m k = tapI T u := by
          obtain ⟨j, rfl⟩ : ∃ j, k = j + 1 := ⟨k - 1, by omega⟩
          have := hu.out
          rw [Nat.add_sub_cancel] at this
          rw [tvI, this, Option.bind_some]
        have HTV := Lib.hid htv
        have hbt := hV.t
        have hbm := hV.m
        clear hN1 hN2 hN3 htv hu
        go_upto_region 13 with (first | (refine wpList_load_row rfl 84 _ rfl bT rfl 84 (tbc T) (0, 0) _ hbt Tryd.underlying84 rfl (szTab T HTL.out) ?_) | (refine wpList_load_row rfl 44 _ rfl w.heap.size rfl 44 (mtc u) (0, 0) _ hbm Tryd.underlying44 rfl (szStkM u) ?_) | (go_at_call 84; (with_reducible refine (apply_c T u X nb _ HTL HN1).mono ?_); rintro e w5 ⟨rfl, hb⟩) | (refine wpList_store_row rfl 44 _ _ rfl w5.heap.size (mtc X) rfl rfl 44 (#[.int .i64 0, .int .i64 0, .int .i64 0, .int .i64 0, .int .i64 0, .int .i64 0, .int .i64 0, .int .i64 0, .int .i64 0, .int .i64 0, .int .i64 0, .int .i64 0]) (heap_alloc_last w5 _) (szStkM X) rfl (mtc_one X) ?_))
        have hBx : Below wr.heap.size wr ((w5.alloc (.cells #[.int .i64 0, .int .i64 0, .int .i64 0, .int .i64 0, .int .i64 0, .int .i64 0, .int .i64 0, .int .i64 0, .int .i64 0, .int .i64 0, .int .i64 0, .int .i64 0] 44)).setRow w5.heap.size (mtc X)) := below_setRow (hb.alloc hb.size _) hb.size _
        obtain ⟨bx, hbx⟩ : ∃ b, b = w5.heap.size := ⟨_, rfl⟩
        obtain ⟨W5, hW5, hV5, hX5⟩ : ∃ W, W = (w5.alloc (.cells #[.int .i64 0, .int .i64 0, .int .i64 0, .int .i64 0, .int .i64 0, .int .i64 0, .int .i64 0, .int .i64 0, .int .i64 0, .int .i64 0, .int .i64 0, .int .i64 0] 44)).setRow w5.heap.size (mtc X) ∧ TV w w.heap.size bq bT u q T u10 L W ∧ Blk W bx (mtc X) 44 :=
          ⟨_, rfl, hV.below hBx, by rw [hbx]; exact setRow_heap _ _ _ _ _ _ (heap_alloc_last w5 _)⟩
        rw [← hW5, ← hbx]
        clear hW5 hbx hBx hb hV hbt hbm
        cases hnb : nb
        · have htn : tvI T m k = none := by
            rw [HTV.out]
            have : (tapI T u).isSome = false := by rw [← HN2.out, hnb]
            simpa using this
          have he : turnM m fr st N = none := by rw [HM2.out, trn_tap htn hkl]
          have HE := Lib.hid he
          clear he htn HN3
          have hO9 := OwF.made W5 w.heap.size hV5.B.size
          have hB9 := hV5.B.alloc hV5.B.size (.cells #[] 25)
          go_wp2
          go_ret2
          exact ⟨⟨_, by rw [HE.out]; rfl, by rw [HE.out]; exact hO9⟩, hB9⟩
        · have hu1 : Hid (tvI T m k = some X) := Lib.hid (HTV.out.trans (HN3.out hnb))
          have hbm := hV5.m
          clear HN3 HN2 HN1 HTV
          go_upto_region 16 with (first | (refine wpList_load_row rfl 44 _ rfl bx rfl 44 (mtc X) (0, 0) _ hX5 Tryd.underlying44 rfl (szStkM X) ?_) | (refine wpList_store_row rfl 44 _ _ rfl w.heap.size (mtc X) rfl rfl 44 (mtc u) hbm (szStkM X) rfl (mtc_one X) ?_))
          have hV6 := hV5.put X
          clear hV5 hX5 hbm
          obtain ⟨F, bd, hF⟩ : ∃ F bd, rdI (row4 q) X = (F, bd) := ⟨_, _, rfl⟩
          have HF := Lib.hid hF
          clear hF
          obtain ⟨WA, hWA⟩ : ∃ W, W = (W5.setRow w.heap.size (mtc X)) := ⟨_, rfl⟩
          rw [← hWA] at hV6 ⊢
          clear hWA
          have hs0 : SumIs (WA.alloc (.cells #[.bool false] 103)) WA.heap.size false := SumIs.new' rfl
          have hVs := hV6.below ((Below.refl WA.heap.size WA).alloc (Nat.le_refl _) (.cells #[.bool false] 103))
          obtain ⟨y0, y1, y2, y3, y4, y5, y6, y7, y8, y9, y10, y11⟩ := blk_m hVs.q
          obtain ⟨z0, z1, z2, z3, z4, z5, z6, z7, z8, z9, z10, z11⟩ := blk_m hVs.m
          go_upto_region 18 with (first | (go_at_call 85; (with_reducible refine (x_read_m q X F bd WA.heap.size false _ hs0 HF).mono ?_); rintro e w6 ⟨rfl, hs6, hx⟩))
          have hx6 : Below WA.heap.size WA w6 := ((BelX.of ((Below.refl WA.heap.size WA).alloc (Nat.le_refl _) _)).trans (hx.mono (by simp))).below (Nat.le_refl _)
          have hVr := hV6.below hx6
          clear hs0 hVs hx hx6 hV6 y0 y1 y2 y3 y4 y5 y6 y7 y8 y9 y10 y11 z0 z1 z2 z3 z4 z5 z6 z7 z8 z9 z10 z11
          obtain ⟨bF, hbF⟩ : ∃ b, b = w6.heap.size := ⟨_, rfl⟩
          obtain ⟨W7, hW7, hV7, hs7, hF7⟩ : ∃ W, W = w6.alloc (.cells #[.int .i64 F.re, .int .i64 F.im, .int .i64 F.den] 25) ∧ TV w w.heap.size bq bT X q T u10 L W ∧ SumIs W WA.heap.size (false || bd) ∧ Blk W bF (frc F) 25 := by
            refine ⟨_, rfl, hVr.below ((Below.refl _ _).alloc (Nat.le_refl _) _), hs6.alloc _, ?_⟩
            rw [hbF]; exact heap_alloc_last w6 _
          rw [← hW7, ← hbF]
          clear hW7 hbF hVr hs6
          have hcs := hs7.cell
          have hz7 := hV7.B.size
          have hFv := hV7.F
          obtain ⟨f0, f1, f2⟩ := blk_fr0 hF7
          have hrd : (rdI (row4 q) X).2 = bd := by rw [HF.out]
          have hLl : L.length < 1000000 := by rw [trn_len hL.out]; omega
          cases hbd : bd
          · rw [hbd] at hcs hrd
            have HNX : Hid (trnI (row4 q) T m (k + 1) = some (L ++ [F])) := Lib.hid (by rw [trn_go hL.out hu1.out hrd, HF.out])
            clear hrd hs7
            go_wp2_with (at_builtin; refine append_frB rfl (.tmp 101) (.tmp 103) rfl w.heap.size _ L _ (by rfl) hFv F (by rfl) hLl hz7 ?_; intro v2 w8 hO8 hg8 hv8; refine Hid.out ?_)
            refine Lib.hid ?_
            have hV8 := hV7.app hO8 hg8 hv8
            clear hO8 hg8 hv8 hV7 hFv f0 f1 f2 hF7 hcs hz7
            go_wp2
            go_roundw
            case rel => exact ⟨k + 1, X, L ++ [F], by omega, by go_num, hV8, HNX, hu1⟩
            case measure => simp [intOf]; omega
          · rw [hbd] at hcs hrd
            have he : turnM m fr st N = none := by rw [HM2.out, trn_bad hu1.out hrd hkl]
            have HE := Lib.hid he
            clear he hrd hs7
            have hO9 := OwF.made W7 w.heap.size hV7.B.size
            have hB9 := hV7.B.alloc hV7.B.size (.cells #[] 25)
            go_wp2
            go_ret2
            exact ⟨⟨_, by rw [HE.out]; rfl, by rw [HE.out]; exact hO9⟩, hB9⟩
    · obtain rfl : k = N := by omega
      have HE : Hid (turnM m fr st k = some L) := Lib.hid (HM2.out.trans hL.out)
      have hO9 := hV.F
      have hB9 := hV.B
      go_wp2
      go_ret2
      exact ⟨⟨_, by rw [HE.out]; rfl, by rw [HE.out]; exact hO9⟩, hB9⟩
end
section
open Go.RowKit
attribute [local go_sem ↓] Go.wp_at_zero Go.wp_at_succ
set_option maxRecDepth 100000 in
set_option maxHeartbeats 16000000 in
theorem sturn_any (m : Mt) (fr st : Sta) (n : Int) (w : World) :
    Calls Tryd.prog 34 #[mtv m, stv fr, stv st, .int .i64 n] w fun e w' => (∃ v, e = .returned (.tuple #[v, .bool (turnM m fr st n).isSome]) ∧ OwF w.heap.size v ((turnM m fr st n).getD []) w') ∧ Below w.heap.size w w' := by
  obtain ⟨q, R, A, T, ok, ro, ao, tk, HQ, HR, HA, HT, HTL, HOK, HROW, HAO, HM⟩ := turn_parts m fr st n
  go_enter Tryd.func34, Tryd.ntmps34
  obtain ⟨W0, hW0, hT0, hf0⟩ : ∃ W, W = (((w.alloc (.cells #[.int .i64 m.a.re, .int .i64 m.a.im, .int .i64 m.a.den, .int .i64 m.b.re, .int .i64 m.b.im, .int .i64 m.b.den, .int .i64 m.c.re, .int .i64 m.c.im, .int .i64 m.c.den, .int .i64 m.d.re, .int .i64 m.d.im, .int .i64 m.d.den] 44)).alloc (.cells #[.int .i64 fr.p, .int .i64 fr.q] 29)).alloc (.cells #[.int .i64 st.p, .int .i64 st.q] 29)).alloc (.cells #[] 25) ∧ MH w ([] ++ [(w.heap.size, mtc m, 44)] ++ [(w.heap.size + 1, #[.int .i64 fr.p, .int .i64 fr.q], 29)] ++ [(w.heap.size + 1 + 1, #[.int .i64 st.p, .int .i64 st.q], 29)] ++ [(w.heap.size + 1 + 1 + 1, #[], 25)]) W ∧ OwF w.heap.size (.slice (some ⟨w.heap.size + 1 + 1 + 1, 0, none⟩) 0 0) [] W := by
    have h0 := ((((MH.start (w := w)).alloc (cs := mtc m) (ty := 44)).alloc (cs := #[.int .i64 fr.p, .int .i64 fr.q]) (ty := 29)).alloc (cs := #[.int .i64 st.p, .int .i64 st.q]) (ty := 29)).alloc (cs := #[]) (ty := 25)
    have h1 := OwF.made (((w.alloc (.cells (mtc m) 44)).alloc (.cells #[.int .i64 fr.p, .int .i64 fr.q] 29)).alloc (.cells #[.int .i64 st.p, .int .i64 st.q] 29)) w.heap.size (by simp; omega)
    simp only [World.size_alloc] at h0 h1
    exact ⟨_, rfl, h0, h1⟩
  go_upto_region 2 with fail
  rw [← hW0]
  clear hW0
  obtain ⟨c0, c1⟩ : W0.cell? ⟨w.heap.size + 1, 0, none⟩ = some (.int .i64 fr.p) ∧ W0.cell? ⟨w.heap.size + 1, 1, none⟩ = some (.int .i64 fr.q) := by
    have h := hT0.at (b := w.heap.size + 1) (cs := #[.int .i64 fr.p, .int .i64 fr.q]) (ty := 29) (by simp)
    exact ⟨by simp [World.cell?, h], by simp [World.cell?, h]⟩
  go_upto_region 3 with (first | (go_at_call 14; (with_reducible refine (srow_m fr q ok _ HQ).mono ?_); rintro e w1 ⟨rfl, hb⟩))
  obtain ⟨bq, hbq⟩ : ∃ b, b = w1.heap.size := ⟨_, rfl⟩
  obtain ⟨W1, hW1, hT1, hf1⟩ : ∃ W, W = w1.alloc (.cells #[.int .i64 q.a.re, .int .i64 q.a.im, .int .i64 q.a.den, .int .i64 q.b.re, .int .i64 q.b.im, .int .i64 q.b.den, .int .i64 q.c.re, .int .i64 q.c.im, .int .i64 q.c.den, .int .i64 q.d.re, .int .i64 q.d.im, .int .i64 q.d.den] 26) ∧ MH w ([] ++ [(w.heap.size, mtc m, 44)] ++ [(w.heap.size + 1, #[.int .i64 fr.p, .int .i64 fr.q], 29)] ++ [(w.heap.size + 1 + 1, #[.int .i64 st.p, .int .i64 st.q], 29)] ++ [(w.heap.size + 1 + 1 + 1, #[], 25)] ++ [(bq, mtc q, 26)]) W ∧ OwF w.heap.size (.slice (some ⟨w.heap.size + 1 + 1 + 1, 0, none⟩) 0 0) [] W := ⟨_, rfl, by rw [hbq]; exact (hT0.call hb).alloc, (hf0.below hb).alloc _⟩
  have hl1 : w.heap.size + 1 + 1 + 1 < bq := by have := hb.size; have := blk_lt (hT0.at (b := w.heap.size + 1 + 1 + 1) (cs := #[]) (ty := 25) (by simp)); omega
  rw [← hW1, ← hbq]
  clear hW1 hbq hb hT0 hf0
  clear c0 c1
  obtain ⟨c0, c1⟩ : W1.cell? ⟨w.heap.size + 1 + 1, 0, none⟩ = some (.int .i64 st.p) ∧ W1.cell? ⟨w.heap.size + 1 + 1, 1, none⟩ = some (.int .i64 st.q) := by
    have h := hT1.at (b := w.heap.size + 1 + 1) (cs := #[.int .i64 st.p, .int .i64 st.q]) (ty := 29) (by simp)
    exact ⟨by simp [World.cell?, h], by simp [World.cell?, h]⟩
  go_upto_region 4 with (first | (go_at_call 75; (with_reducible refine (srot_c st.p st.q R ro _ HR).mono ?_); rintro e w2 ⟨rfl, hb⟩))
  obtain ⟨bR, hbR⟩ : ∃ b, b = w2.heap.size := ⟨_, rfl⟩
  obtain ⟨W2, hW2, hT2, hf2⟩ : ∃ W, W = w2.alloc (.cells #[.int .i64 R.a.re, .int .i64 R.a.im, .int .i64 R.a.den, .int .i64 R.b.re, .int .i64 R.b.im, .int .i64 R.b.den, .int .i64 R.c.re, .int .i64 R.c.im, .int .i64 R.c.den, .int .i64 R.d.re, .int .i64 R.d.im, .int .i64 R.d.den] 78) ∧ MH w ([] ++ [(w.heap.size, mtc m, 44)] ++ [(w.heap.size + 1, #[.int .i64 fr.p, .int .i64 fr.q], 29)] ++ [(w.heap.size + 1 + 1, #[.int .i64 st.p, .int .i64 st.q], 29)] ++ [(w.heap.size + 1 + 1 + 1, #[], 25)] ++ [(bq, mtc q, 26)] ++ [(bR, mtc R, 78)]) W ∧ OwF w.heap.size (.slice (some ⟨w.heap.size + 1 + 1 + 1, 0, none⟩) 0 0) [] W := ⟨_, rfl, by rw [hbR]; exact (hT1.call hb).alloc, (hf1.below hb).alloc _⟩
  have hl2 : w.heap.size + 1 + 1 + 1 < bR := by have := hb.size; have := blk_lt (hT1.at (b := w.heap.size + 1 + 1 + 1) (cs := #[]) (ty := 25) (by simp)); omega
  rw [← hW2, ← hbR]
  clear hW2 hbR hb hT1 hf1
  clear c0 c1
  obtain ⟨z0, z1, z2, z3, z4, z5, z6, z7, z8, z9, z10, z11⟩ := blk_m (hT2.at (b := w.heap.size) (cs := mtc m) (ty := 44) (by simp))
  cases hok : ok
  · have HE : Hid (turnM m fr st n = none) := Lib.hid (by rw [HM.out, hok]; simp)
    go_wp2_with (first | fail)
    have hO9 := hf2
    have hB9 := hT2.B
    go_ret2
    exact ⟨⟨_, by rw [HE.out]; rfl, by rw [HE.out]; exact hO9⟩, hB9⟩
  cases hro : ro
  · have HE : Hid (turnM m fr st n = none) := Lib.hid (by rw [HM.out, hro]; simp)
    go_wp2_with (first | fail)
    have hO9 := hf2
    have hB9 := hT2.B
    go_ret2
    exact ⟨⟨_, by rw [HE.out]; rfl, by rw [HE.out]; exact hO9⟩, hB9⟩
  cases hmr : mreal m
  · have HMR := Lib.hid hmr
    have HE : Hid (turnM m fr st n = none) := Lib.hid (by rw [HM.out, hmr]; simp)
    clear hmr
    go_wp2_with (first | (go_at_call 66; (with_reducible refine (sstokes_any m _).mono ?_); rw [HMR.out]; rintro e w9 ⟨rfl, hb⟩; have hT2 := hT2.call hb; have hf2 := hf2.below hb; clear hb))
    have hO9 := hf2
    have hB9 := hT2.B
    go_ret2
    exact ⟨⟨_, by rw [HE.out]; rfl, by rw [HE.out]; exact hO9⟩, hB9⟩
  have HMR := Lib.hid hmr
  clear hmr
  cases hin : inB n 0 16
  · have HIN := Lib.hid hin
    have HE : Hid (turnM m fr st n = none) := Lib.hid (by rw [HM.out, hin]; simp)
    clear hin
    go_wp2_with (first | (go_at_call 66; (with_reducible refine (sstokes_any m _).mono ?_); rw [HMR.out]; rintro e w9 ⟨rfl, hb⟩; have hT2 := hT2.call hb; have hf2 := hf2.below hb; clear hb) | (go_at_call 76; (with_reducible refine (l6in_any n 0 16 _).mono ?_); rw [HIN.out]; rintro e w5 ⟨rfl, rfl⟩))
    have hO9 := hf2
    have hB9 := hT2.B
    go_ret2
    exact ⟨⟨_, by rw [HE.out]; rfl, by rw [HE.out]; exact hO9⟩, hB9⟩
  have HIN := Lib.hid hin
  clear hin
  go_upto_region 6 with (first | (go_at_call 66; (with_reducible refine (sstokes_any m _).mono ?_); rw [HMR.out]; rintro e w9 ⟨rfl, hb⟩; have hT2 := hT2.call hb; have hf2 := hf2.below hb; clear hb) | (go_at_call 76; (with_reducible refine (l6in_any n 0 16 _).mono ?_); rw [HIN.out]; rintro e w5 ⟨rfl, rfl⟩))
  clear z0 z1 z2 z3 z4 z5 z6 z7 z8 z9 z10 z11
  obtain ⟨r0, r1, r2, r3, r4, r5, r6, r7, r8, r9, r10, r11⟩ := blk_m (hT2.at (b := bR) (cs := mtc R) (ty := 78) (by simp))
  go_upto_region 7 with (first | (go_at_call 77; (with_reducible refine (sadj_c R A ao _ HA).mono ?_); rintro e w3 ⟨rfl, hb⟩))
  obtain ⟨bA, hbA⟩ : ∃ b, b = w3.heap.size := ⟨_, rfl⟩
  obtain ⟨W3, hW3, hT3, hf3⟩ : ∃ W, W = w3.alloc (.cells #[.int .i64 A.a.re, .int .i64 A.a.im, .int .i64 A.a.den, .int .i64 A.b.re, .int .i64 A.b.im, .int .i64 A.b.den, .int .i64 A.c.re, .int .i64 A.c.im, .int .i64 A.c.den, .int .i64 A.d.re, .int .i64 A.d.im, .int .i64 A.d.den] 78) ∧ MH w ([] ++ [(w.heap.size, mtc m, 44)] ++ [(w.heap.size + 1, #[.int .i64 fr.p, .int .i64 fr.q], 29)] ++ [(w.heap.size + 1 + 1, #[.int .i64 st.p, .int .i64 st.q], 29)] ++ [(w.heap.size + 1 + 1 + 1, #[], 25)] ++ [(bq, mtc q, 26)] ++ [(bR, mtc R, 78)] ++ [(bA, mtc A, 78)]) W ∧ OwF w.heap.size (.slice (some ⟨w.heap.size + 1 + 1 + 1, 0, none⟩) 0 0) [] W := ⟨_, rfl, by rw [hbA]; exact (hT2.call hb).alloc, (hf2.below hb).alloc _⟩
  have hl3 : w.heap.size + 1 + 1 + 1 < bA := by have := hb.size; have := blk_lt (hT2.at (b := w.heap.size + 1 + 1 + 1) (cs := #[]) (ty := 25) (by simp)); omega
  rw [← hW3, ← hbA]
  clear hW3 hbA hb hT2 hf2
  clear r0 r1 r2 r3 r4 r5 r6 r7 r8 r9 r10 r11
  obtain ⟨r0, r1, r2, r3, r4, r5, r6, r7, r8, r9, r10, r11⟩ := blk_m (hT3.at (b := bA) (cs := mtc A) (ty := 78) (by simp))
  go_upto_region 8 with (first | (go_at_call 52; (with_reducible refine (stab_c A T tk _ HT).mono ?_); rintro e w4 ⟨rfl, hb⟩) | (refine wpList_store_row rfl 84 _ _ rfl w4.heap.size (tbc T) rfl rfl 84 (#[.int .i64 0, .int .i64 0, .int .i64 0, .int .i64 0, .int .i64 0, .int .i64 0, .int .i64 0, .int .i64 0, .int .i64 0, .int .i64 0, .int .i64 0, .int .i64 0, .int .i64 0, .int .i64 0, .int .i64 0, .int .i64 0, .int .i64 0, .int .i64 0, .int .i64 0, .int .i64 0, .int .i64 0, .int .i64 0, .int .i64 0, .int .i64 0, .int .i64 0, .int .i64 0, .int .i64 0, .int .i64 0, .int .i64 0, .int .i64 0, .int .i64 0, .int .i64 0, .int .i64 0, .int .i64 0, .int .i64 0, .int .i64 0, .int .i64 0, .int .i64 0, .int .i64 0, .int .i64 0, .int .i64 0, .int .i64 0, .int .i64 0, .int .i64 0, .int .i64 0, .int .i64 0, .int .i64 0, .int .i64 0]) (heap_alloc_last w4 _) (szTab T HTL.out) (by rw [tbc_size, HTL.out]; rfl) (tbc_one _) ?_))
  obtain ⟨bT, hbT⟩ : ∃ b, b = w4.heap.size := ⟨_, rfl⟩
  obtain ⟨W4, hW4, hV⟩ : ∃ W, W = (w4.alloc (.cells #[.int .i64 0, .int .i64 0, .int .i64 0, .int .i64 0, .int .i64 0, .int .i64 0, .int .i64 0, .int .i64 0, .int .i64 0, .int .i64 0, .int .i64 0, .int .i64 0, .int .i64 0, .int .i64 0, .int .i64 0, .int .i64 0, .int .i64 0, .int .i64 0, .int .i64 0, .int .i64 0, .int .i64 0, .int .i64 0, .int .i64 0, .int .i64 0, .int .i64 0, .int .i64 0, .int .i64 0, .int .i64 0, .int .i64 0, .int .i64 0, .int .i64 0, .int .i64 0, .int .i64 0, .int .i64 0, .int .i64 0, .int .i64 0, .int .i64 0, .int .i64 0, .int .i64 0, .int .i64 0, .int .i64 0, .int .i64 0, .int .i64 0, .int .i64 0, .int .i64 0, .int .i64 0, .int .i64 0, .int .i64 0] 84)).setRow w4.heap.size (tbc T) ∧ TV w w.heap.size bq bT m q T (.slice (some ⟨w.heap.size + 1 + 1 + 1, 0, none⟩) 0 0) [] W := by
    refine ⟨_, rfl, ?_⟩
    have h := (hT3.call hb).put (z := #[.int .i64 0, .int .i64 0, .int .i64 0, .int .i64 0, .int .i64 0, .int .i64 0, .int .i64 0, .int .i64 0, .int .i64 0, .int .i64 0, .int .i64 0, .int .i64 0, .int .i64 0, .int .i64 0, .int .i64 0, .int .i64 0, .int .i64 0, .int .i64 0, .int .i64 0, .int .i64 0, .int .i64 0, .int .i64 0, .int .i64 0, .int .i64 0, .int .i64 0, .int .i64 0, .int .i64 0, .int .i64 0, .int .i64 0, .int .i64 0, .int .i64 0, .int .i64 0, .int .i64 0, .int .i64 0, .int .i64 0, .int .i64 0, .int .i64 0, .int .i64 0, .int .i64 0, .int .i64 0, .int .i64 0, .int .i64 0, .int .i64 0, .int .i64 0, .int .i64 0, .int .i64 0, .int .i64 0, .int .i64 0]) (cs := tbc T) (ty := 84)
    have hz := hb.size
    have hlt := blk_lt (hT3.at (b := bq) (cs := mtc q) (ty := 26) (by simp))
    have hl3 := blk_lt (hT3.at (b := w.heap.size + 1 + 1 + 1) (cs := #[]) (ty := 25) (by simp))
    have hF := ((hf3.below hb).alloc (.cells #[.int .i64 0, .int .i64 0, .int .i64 0, .int .i64 0, .int .i64 0, .int .i64 0, .int .i64 0, .int .i64 0, .int .i64 0, .int .i64 0, .int .i64 0, .int .i64 0, .int .i64 0, .int .i64 0, .int .i64 0, .int .i64 0, .int .i64 0, .int .i64 0, .int .i64 0, .int .i64 0, .int .i64 0, .int .i64 0, .int .i64 0, .int .i64 0, .int .i64 0, .int .i64 0, .int .i64 0, .int .i64 0, .int .i64 0, .int .i64 0, .int .i64 0, .int .i64 0, .int .i64 0, .int .i64 0, .int .i64 0, .int .i64 0, .int .i64 0, .int .i64 0, .int .i64 0, .int .i64 0, .int .i64 0, .int .i64 0, .int .i64 0, .int .i64 0, .int .i64 0, .int .i64 0, .int .i64 0, .int .i64 0] 84)).row (b := w4.heap.size) (fun e => by have e2 : w.heap.size + 1 + 1 + 1 = w4.heap.size := Option.some.inj e; omega) (tbc T)
    exact ⟨h.B, h.at (by simp), h.at (by simp), by rw [hbT]; exact h.at (by simp), hF, fun e => by have e2 : w.heap.size + 1 + 1 + 1 = w.heap.size := Option.some.inj e; omega, fun e => by have e2 : w.heap.size + 1 + 1 + 1 = bq := Option.some.inj e; omega, fun e => by have e2 : w.heap.size + 1 + 1 + 1 = bT := Option.some.inj e; omega, by omega⟩
  rw [← hW4, ← hbT]
  clear hW4 hbT hb hT3 hf3 r0 r1 r2 r3 r4 r5 r6 r7 r8 r9 r10 r11
  cases htk : tk
  · have HE : Hid (turnM m fr st n = none) := Lib.hid (by rw [HM.out, htk]; simp)
    go_wp2
    go_loopw [10, 19] (fun v iv wr => v = .slice (some ⟨w.heap.size + 1 + 1 + 1, 0, none⟩) 0 0 ∧ iv = .int .i64 0 ∧ wr = W4) (fun _ _ _ => 0)
    case atStart => exact ⟨rfl, rfl, rfl⟩
    case round =>
      obtain ⟨rfl, rfl, rfl⟩ := hrel
      have hO9 := OwF.made wr w.heap.size hV.B.size
      have hB9 := hV.B.alloc hV.B.size (.cells #[] 25)
      go_wp2
      all_goals go_ret2
      all_goals exact ⟨⟨_, by rw [HE.out]; rfl, by rw [HE.out]; exact hO9⟩, hB9⟩
  have hao : ao = true := by
    cases h : ao
    · have := HAO.out hro h; rw [htk] at this; cases this
    · rfl
  obtain ⟨N, rfl⟩ : ∃ N : Nat, n = N := ⟨n.toNat, by have := inB_iff.1 HIN.out; omega⟩
  have hN16 : N ≤ 16 := by have := inB_iff.1 HIN.out; omega
  have HM2 : Hid (turnM m fr st N = trnI (row4 q) T m N) := Lib.hid (by rw [HM.out, HIN.out, HMR.out, hok, hro, hao, htk]; simp)
  have hRK : rowOk fr = true := by rw [← HOK.out, hok]
  have HRG : Hid (rowG fr = row4 q) := Lib.hid (HROW.out hok)
  have HRK := Lib.hid hRK
  clear hRK hao
  go_wp2
  go_loopw [10, 19] (fun v iv wr => ∃ (k : Nat) (u : Mt) (L : List Fr), k ≤ N ∧ iv = .int .i64 k ∧ TV w w.heap.size bq bT u q T v L wr ∧ Hid (trnI (row4 q) T m k = some L) ∧ Hid (k < N → tvI T m k = some u)) (fun _ iv _ => N - (intOf iv).toNat)
  case atStart => exact ⟨0, m, [], Nat.zero_le _, rfl, hV, Lib.hid rfl, Lib.hid fun _ => rfl⟩
  case round =>
    clear hV
    obtain ⟨k, u, L, hk, rfl, hV, hL, hu⟩ := hrel
    have hz := hV.B.size
    by_cases hkl : k < N
    · have hki : (k : Int) < (N : Int) := by omega
      have hu1 : Hid (tvI T m k = some u) := Lib.hid (hu.out hkl)
      clear hu
      obtain ⟨F, bd, hF⟩ : ∃ F bd, rdS (row4 q) u = (F, bd) := ⟨_, _, rfl⟩
      have HF := Lib.hid hF
      have hbth := rd_turn HRK.out (tv_real HTL.out HMR.out hu1.out)
      rw [HRG.out, hF] at hbth
      simp only at hbth
      have hrd : (rdI (row4 q) u).2 = bd := hbth.1.symm
      have HVL : Hid (bd = false → F = (rdI (row4 q) u).1) := Lib.hid fun h => hbth.2 (hrd.trans h)
      have HRD := Lib.hid hrd
      clear hF hbth hrd
      obtain ⟨X, nb, hN1, hN2, hN3⟩ := tap_form T u
      have HN1 := Lib.hid hN1
      have HN2 := Lib.hid hN2
      have HN3 := Lib.hid hN3
      clear hN1 hN2 hN3
      have hs0 : OkIs (wr.alloc (.cells #[.bool true] 108)) wr.heap.size false := OkIs.new wr false
      have hVs := hV.below ((Below.refl wr.heap.size wr).alloc (Nat.le_refl _) (.cells #[.bool true] 108))
      obtain ⟨y0, y1, y2, y3, y4, y5, y6, y7, y8, y9, y10, y11⟩ := blk_m hVs.q
      obtain ⟨z0, z1, z2, z3, z4, z5, z6, z7, z8, z9, z10, z11⟩ := blk_m hVs.m
      go_upto_region 13 with (first | (go_at_call 78; (with_reducible refine (y_read_m q u F bd wr.heap.size false _ hs0 HF).mono ?_); rintro e w6 ⟨rfl, hs6, hx⟩))
      have hx6 : Below wr.heap.size wr w6 := ((BelX.of ((Below.refl wr.heap.size wr).alloc (Nat.le_refl _) _)).trans (hx.mono (by simp))).below (Nat.le_refl _)
      have hV6 := hV.below hx6
      clear hs0 hVs hx hx6 y0 y1 y2 y3 y4 y5 y6 y7 y8 y9 y10 y11 z0 z1 z2 z3 z4 z5 z6 z7 z8 z9 z10 z11
      obtain ⟨bF, hbF⟩ : ∃ b, b = w6.heap.size := ⟨_, rfl⟩
      obtain ⟨W7, hW7, hV7, hs7, hF7⟩ : ∃ W, W = w6.alloc (.cells #[.int .i64 F.re, .int .i64 F.im, .int .i64 F.den] 25) ∧ TV w w.heap.size bq bT u q T u10 L W ∧ OkIs W wr.heap.size (false || bd) ∧ Blk W bF (frc F) 25 := by
        refine ⟨_, rfl, hV6.below ((Below.refl _ _).alloc (Nat.le_refl _) _), hs6.alloc _, ?_⟩
        rw [hbF]; exact heap_alloc_last w6 _
      rw [← hW7, ← hbF]
      clear hW7 hbF hV6 hs6
      have hbt := hV7.t
      have hbm := hV7.m
      go_upto_region 14 with (first | (refine wpList_load_row rfl 84 _ rfl bT rfl 84 (tbc T) (0, 0) _ hbt Tryd.underlying84 rfl (szTab T HTL.out) ?_) | (refine wpList_load_row rfl 44 _ rfl w.heap.size rfl 44 (mtc u) (0, 0) _ hbm Tryd.underlying44 rfl (szStkM u) ?_) | (go_at_call 79; (with_reducible refine (sapply_c T u X nb _ HTL HN1).mono ?_); rintro e w5 ⟨rfl, hb⟩) | (refine wpList_store_row rfl 44 _ _ rfl w5.heap.size (mtc X) rfl rfl 44 (#[.int .i64 0, .int .i64 0, .int .i64 0, .int .i64 0, .int .i64 0, .int .i64 0, .int .i64 0, .int .i64 0, .int .i64 0, .int .i64 0, .int .i64 0, .int .i64 0]) (heap_alloc_last w5 _) (szStkM X) rfl (mtc_one X) ?_))
      have hBx : Below W7.heap.size W7 ((w5.alloc (.cells #[.int .i64 0, .int .i64 0, .int .i64 0, .int .i64 0, .int .i64 0, .int .i64 0, .int .i64 0, .int .i64 0, .int .i64 0, .int .i64 0, .int .i64 0, .int .i64 0] 44)).setRow w5.heap.size (mtc X)) := below_setRow (hb.alloc hb.size _) hb.size _
      obtain ⟨bx, hbx⟩ : ∃ b, b = w5.heap.size := ⟨_, rfl⟩
      have hzx : W7.heap.size ≤ bx := by rw [hbx]; exact hb.size
      obtain ⟨W8, hW8, hV8, hX8, hF8, hs8⟩ : ∃ W, W = (w5.alloc (.cells #[.int .i64 0, .int .i64 0, .int .i64 0, .int .i64 0, .int .i64 0, .int .i64 0, .int .i64 0, .int .i64 0, .int .i64 0, .int .i64 0, .int .i64 0, .int .i64 0] 44)).setRow w5.heap.size (mtc X) ∧ TV w w.heap.size bq bT u q T u10 L W ∧ Blk W bx (mtc X) 44 ∧ Blk W bF (frc F) 25 ∧ OkIs W wr.heap.size (false || bd) :=
        ⟨_, rfl, hV7.below hBx, by rw [hbx]; exact setRow_heap _ _ _ _ _ _ (heap_alloc_last w5 _), (hBx.block _ (blk_lt hF7)).trans hF7, hs7.below hBx hs7.lt⟩
      rw [← hW8, ← hbx]
      have hxl : u10.ownBlock ≠ some bx := fun e => by have := (hV7.F.lt _ e).2; omega
      clear hW8 hbx hBx hb hbt hbm hV7 hF7 hs7
      have hcs := hs8.cell
      have hz8 := hV8.B.size
      have hFv := hV8.F
      obtain ⟨f0, f1, f2⟩ := blk_fr0 hF8
      have hLl : L.length < 1000000 := by rw [trn_len hL.out]; omega
      clear hs8
      cases hbd : bd
      · rw [hbd] at hcs
        by_cases hbad : nb = false ∧ k + 1 < N
        · obtain ⟨hnb, hk1⟩ := hbad
          have hkq : (k : Int) < (N : Int) - 1 := by omega
          have he : turnM m fr st N = none := by
            rw [HM2.out]
            refine trn_tap (k := k + 1) ?_ hk1
            have : (tapI T u).isSome = false := by rw [← HN2.out, hnb]
            rw [tvI, hu1.out, Option.bind_some]
            simpa using this
          have HE := Lib.hid he
          clear he
          have hO9 := OwF.made W8 w.heap.size hV8.B.size
          have hB9 := hV8.B.alloc hV8.B.size (.cells #[] 25)
          subst hnb
          go_wp2
          go_ret2
          exact ⟨⟨_, by rw [HE.out]; rfl, by rw [HE.out]; exact hO9⟩, hB9⟩
        have hfl : F = (rdI (row4 q) u).1 := HVL.out hbd
        have HNX : Hid (trnI (row4 q) T m (k + 1) = some (L ++ [F])) := Lib.hid (by rw [trn_go hL.out hu1.out (HRD.out.trans hbd), ← hfl])
        have HNU : Hid (k + 1 < N → tvI T m (k + 1) = some X) := Lib.hid fun h => by
          have hnb : nb = true := by
            cases h2 : nb
            · exact absurd ⟨h2, h⟩ hbad
            · rfl
          rw [tvI, hu1.out, Option.bind_some, HN3.out hnb]
        have hgo : (!nb && decide ((k : Int) < (N : Int) - 1)) = false := by
          cases h2 : nb
          · have : ¬ (k + 1 < N) := fun h => hbad ⟨h2, h⟩
            have : ¬ ((k : Int) < (N : Int) - 1) := by omega
            simp [this]
          · rfl
        have HGO := Lib.hid hgo
        clear hfl hgo hbad HN2 HN3 HVL
        have hcase : nb = true ∨ (nb = false ∧ ¬ ((k : Int) < (N : Int) - 1)) := by
          have := HGO.out
          cases h2 : nb
          · rw [h2] at this; exact .inr ⟨rfl, by simpa using this⟩
          · exact .inl rfl
        have HC := Lib.hid hcase
        clear hcase
        have hnext : ∀ v2 w8, OwF w.heap.size v2 (L ++ [F]) w8 → W8.grownBy w8 u10.ownBlock → (v2.ownBlock = u10.ownBlock ∨ ∃ k, v2.ownBlock = some k ∧ W8.heap.size ≤ k) → TV w w.heap.size bq bT u q T v2 (L ++ [F]) w8 ∧ Blk w8 bx (mtc X) 44 := fun v2 w8 h1 h2 h3 => ⟨hV8.app h1 h2 h3, (h2.block _ (blk_lt hX8) (fun e => hxl e.symm)).trans hX8⟩
        have HNE := Lib.hid hnext
        clear hnext
        rcases HC.out with rfl | ⟨rfl, hnk⟩
        · clear HC
          go_wp2_with (at_builtin; refine append_frB rfl (.tmp 102) (.tmp 104) rfl w.heap.size _ L _ (by rfl) hFv F (by rfl) hLl hz8 ?_; intro v2 w8 hO8 hg8 hv8; refine Hid.out ?_)
          refine Lib.hid ?_
          obtain ⟨hV9, hX9⟩ := HNE.out v2 w8 hO8 hg8 hv8
          have hbm := hV9.m
          clear hO8 hg8 hv8 hV8 hX8 HNE hFv f0 f1 f2 hF8 hcs hz8
          go_wp2_with (first | (refine wpList_load_row rfl 44 _ rfl bx rfl 44 (mtc X) (0, 0) _ hX9 Tryd.underlying44 rfl (szStkM X) ?_) | (refine wpList_store_row rfl 44 _ _ rfl w.heap.size (mtc X) rfl rfl 44 (mtc u) hbm (szStkM X) rfl (mtc_one X) ?_))
          have hVA := hV9.put X
          go_roundw
          case rel => exact ⟨k + 1, X, L ++ [F], by omega, by go_num, hVA, HNX, HNU⟩
          case measure => simp [intOf]; omega
        · clear HC
          go_wp2_with (at_builtin; refine append_frB rfl (.tmp 102) (.tmp 104) rfl w.heap.size _ L _ (by rfl) hFv F (by rfl) hLl hz8 ?_; intro v2 w8 hO8 hg8 hv8; refine Hid.out ?_)
          refine Lib.hid ?_
          obtain ⟨hV9, hX9⟩ := HNE.out v2 w8 hO8 hg8 hv8
          have hbm := hV9.m
          clear hO8 hg8 hv8 hV8 hX8 HNE hFv f0 f1 f2 hF8 hcs hz8
          go_wp2_with (first | (refine wpList_load_row rfl 44 _ rfl bx rfl 44 (mtc X) (0, 0) _ hX9 Tryd.underlying44 rfl (szStkM X) ?_) | (refine wpList_store_row rfl 44 _ _ rfl w.heap.size (mtc X) rfl rfl 44 (mtc u) hbm (szStkM X) rfl (mtc_one X) ?_))
          have hVA := hV9.put X
          go_roundw
          case rel => exact ⟨k + 1, X, L ++ [F], by omega, by go_num, hVA, HNX, HNU⟩
          case measure => simp [intOf]; omega
      · rw [hbd] at hcs
        have he : turnM m fr st N = none := by rw [HM2.out, trn_bad hu1.out (HRD.out.trans hbd) hkl]
        have HE := Lib.hid he
        clear he
        have hO9 := OwF.made W8 w.heap.size hV8.B.size
        have hB9 := hV8.B.alloc hV8.B.size (.cells #[] 25)
        go_wp2
        go_ret2
        exact ⟨⟨_, by rw [HE.out]; rfl, by rw [HE.out]; exact hO9⟩, hB9⟩
    · obtain rfl : k = N := by omega
      have HE : Hid (turnM m fr st k = some L) := Lib.hid (HM2.out.trans hL.out)
      have hO9 := hV.F
      have hB9 := hV.B
      go_wp2
      go_ret2
      exact ⟨⟨_, by rw [HE.out]; rfl, by rw [HE.out]; exact hO9⟩, hB9⟩
end
section
open Go.RowKit
attribute [local go_sem ↓] Go.wp_at_zero Go.wp_at_succ
theorem OwF.frsT {base n cap : Nat} {A : Option Addr} {xs : List Fr} {w : World} (h : OwF base (.slice A n cap) xs w) : Frs A n cap xs w := by
  obtain ⟨A1, c1, e, hF⟩ := h.frs
  simp only [Value.slice.injEq] at e
  obtain ⟨rfl, rfl, rfl⟩ := e
  exact hF
theorem own_neT {a b : Option Nat} {n : Nat} (h1 : ∀ k, a = some k → k < n) (h2 : ∀ k, b = some k → n ≤ k) : a = none ∨ a ≠ b := by
  cases a with
  | none => exact .inl rfl
  | some k =>
    refine .inr fun e => ?_
    have := h1 k rfl
    have := h2 k e.symm
    omega
theorem eqF_runt (a : Fr) (w : World) : (Op.equalIn 10000 25 (frv a) (frv a)).run Tryd.prog w = .ok true w := eqF_run 9998 a w
section
attribute [local go_sem] eqF_runt
set_option maxRecDepth 100000 in
set_option maxHeartbeats 8000000 in
theorem sameFrs_refl (A A' : Option Addr) (len cap cap' : Nat) (xs : List Fr) (w : World) (h : Frs A len cap xs w) (h' : Frs A' len cap' xs w) :
    Calls Tryd.prog 44 #[.slice A len cap, .slice A' len cap'] w fun e w' => e = .returned (.bool true) ∧ Below w.heap.size w w' := by
  have hl := h.2.1
  have hm := h.2.2.1
  go_enter Tryd.func44, Tryd.ntmps44
  go_wp2
  go_loopw [5] (fun i wr => ∃ k : Nat, k ≤ len ∧ i = .int .i64 k ∧ Below w.heap.size w wr) (fun i _ => len - (intOf i).toNat)
  case atStart => exact ⟨0, Nat.zero_le _, rfl, Below.refl _ _⟩
  case round =>
    obtain ⟨k, hk, rfl, hb⟩ := hrel
    have hz := hb.size
    by_cases hkl : k < len
    · obtain ⟨b1, o1, s, rfl, hlt1, hs1, hc1⟩ := h.at hb hkl
      obtain ⟨b2, o2, s2, rfl, hlt2, hs2, hc2⟩ := h'.at hb hkl
      obtain rfl : s = s2 := by rw [hs1] at hs2; exact Option.some.inj hs2
      obtain ⟨c0, c1, c2⟩ := hc1
      obtain ⟨d0, d1, d2⟩ := hc2
      clear hs1 hs2
      have hki : (k : Int) < (len : Int) := by omega
      have hk0 : (0 : Int) ≤ (k : Int) := by omega
      go_upto_region 6 with fail
      go_quiet (fail)
      go_wp2
      go_roundw
      case rel => exact ⟨k + 1, by omega, by go_num, below_drewN hb _⟩
      case measure => first | (simp [intOf]; done) | (simp [intOf]; omega)
    · go_wp2
      go_ret
      exact ⟨rfl, by exact below_⟩
end
set_option maxRecDepth 100000 in
set_option maxHeartbeats 8000000 in
theorem toSta_T (a : Sta) (w : World) : Calls Tryd.prog 15 #[stv a] w fun e w' => e = .returned (stv a) ∧ Below w.heap.size w w' := by
  go_enter Tryd.func15, Tryd.ntmps15
  go_wp2
  exact bodyPost_ret (v := stv a) (by simp [results, Tryd.results15, go_sem, *]) rfl ⟨rfl, by exact below_⟩
theorem turn_len (m : Mt) (fr st : Sta) (n : Int) : ((turnM m fr st n).getD []).length ≤ 16 := by
  cases h : turnM m fr st n with
  | none => simp
  | some rs =>
    have h' := h
    obtain ⟨h1, h2, -⟩ := turn_law h
    unfold turnM at h'
    split at h'
    · rename_i hc
      simp only [Bool.and_eq_true, inB_iff] at hc
      rw [Option.getD_some, h1]; omega
    · cases h'
theorem turn_m (m : Mt) (fr st : Sta) (n : Int) (rs : List Fr) (ok : Bool) (w : World) (hO : GO w) (hZ : GZ w) (hT : GT w) (e : Hid ((turnM m fr st n).getD [] = rs ∧ (turnM m fr st n).isSome = ok)) :
    Calls Tryd.prog 36 #[mtv m, stv fr, stv st, .int .i64 n] w fun e w' => ∃ v, e = .returned (.tuple #[v, .bool ok]) ∧ OwF w.heap.size v rs w' ∧ Below w.heap.size w w' := by
  rw [← e.out.1, ← e.out.2]
  exact (turn_any m fr st n w hO hZ hT).mono fun e w' ⟨⟨v, h1, h2⟩, h3⟩ => ⟨v, h1, h2, h3⟩
theorem sturn_m (m : Mt) (fr st : Sta) (n : Int) (rs : List Fr) (ok : Bool) (w : World) (e : Hid ((turnM m fr st n).getD [] = rs ∧ (turnM m fr st n).isSome = ok)) :
    Calls Tryd.prog 34 #[mtv m, stv fr, stv st, .int .i64 n] w fun e w' => ∃ v, e = .returned (.tuple #[v, .bool ok]) ∧ OwF w.heap.size v rs w' ∧ Below w.heap.size w w' := by
  rw [← e.out.1, ← e.out.2]
  exact (sturn_any m fr st n w).mono fun e w' ⟨⟨v, h1, h2⟩, h3⟩ => ⟨v, h1, h2, h3⟩
end
end Go.Proofs.YtalcjmefmffcnaaDoor
