/-
  Texts of this claim, joined: Ym; Yn; Yo; Yq; Yp. Nothing is claimed here; the other texts of this claim use it.
-/
import Derived.Test.YtodhbkinbcemnaaGreatDoorUj
import Derived.Test.YtodhbkinbcemnaaGreatDoorTx
import Derived.Test.YtodhbkinbcemnaaGreatDoorPo
namespace Go.Proofs.YtodhbkinbcemnaaGreatDoor
set_option linter.unusedSimpArgs false
set_option linter.unusedVariables false
section
open Go.RowKit
section
variable {W0 : World} {bs fb : Nat} {bad : Nat → Bool} {fc : Nat → Array Value} {fty : TypeId}
end
end
section
open Go.RowKit
attribute [local go_sem ↓] Go.wp_at_zero Go.wp_at_succ
theorem szStk (xs : List Fr) (h : xs.length = 4) : ((Tryz.prog).info? 28).map (·.size) = some (tbc xs).size := by rw [tbc_size, h]; kernel_rfl
/-- What TableApply hands back. -/
def tkb (o : Option Mt) : Value := .tuple #[.agg (tbc ((o.map row4).getD zs4)), .bool o.isSome]
/-- Before the reckoning is made. -/
structure TY0 (w : World) (a : List Fr) (m : Mt) (W : World) : Prop where
  B : Below w.heap.size w W
  ta : Blk W w.heap.size (tbc a) 44
  tb : Blk W (w.heap.size + 1) (tbc (row4 m)) 28
  tr : Blk W (w.heap.size + 1 + 1) (tbc zs4) 28
theorem TY0.step {w W W' : World} {a : List Fr} {m : Mt} (h : TY0 w a m W) (hb : Below W.heap.size W W') : TY0 w a m W' := ⟨bstep h.B hb h.B.size, (hb.block _ (blk_lt h.ta)).trans h.ta, (hb.block _ (blk_lt h.tb)).trans h.tb, (hb.block _ (blk_lt h.tr)).trans h.tr⟩
theorem TY0.alloc {w W : World} {a : List Fr} {m : Mt} (h : TY0 w a m W) (x : Obj) : TY0 w a m (W.alloc x) := h.step ((Below.refl _ _).alloc (Nat.le_refl _) x)
/-- What the rounds keep. -/
structure TYk (w : World) (bs bo : Nat) (a : List Fr) (m : Mt) (xs : List Fr) (bad : Bool) (W : World) : Prop where
  t : TY0 w a m W
  s : OkIs W bs bad
  o : Blk W bo (tbc xs) 28
  l : w.heap.size + 1 + 1 < bs ∧ bs < bo
theorem TYk.stepK {w W W' : World} {bs bo k : Nat} {a xs ys : List Fr} {m : Mt} {bad : Bool} {bd : Nat → Bool} {fc : Nat → Array Value} {ty : TypeId} (h : TYk w bs bo a m xs bad W) (X : OK W bs bo bd fc ty k W') (hty : ty = 28) (hc : fc k = tbc ys) : TYk w bs bo a m ys (bd k) W' := by
  obtain ⟨l1, l2⟩ := h.l
  have b1 := blk_lt h.t.ta
  have b2 := blk_lt h.t.tb
  have b3 := blk_lt h.t.tr
  refine ⟨⟨h.t.B.trans ⟨X.os, X.tape, X.output, X.size, fun k hk => X.block k (Nat.lt_of_lt_of_le hk h.t.B.size) (by omega) (by omega)⟩, (X.block _ b1 (by omega) (by omega)).trans h.t.ta, (X.block _ b2 (by omega) (by omega)).trans h.t.tb, (X.block _ b3 (by omega) (by omega)).trans h.t.tr⟩, X.s, ?_, h.l⟩
  have := X.c
  rw [hc, hty] at this
  exact this
end
section
open Go.RowKit
theorem idx_at4y (b i : Nat) (h : i < 4) (w : World) : (Instr.indexAt 26 (ptv b) (iv i)).run Tryz.prog w = .ok (.pointer (some ⟨b, i * 3, none⟩)) w := by
  have hu : (Tryz.prog).underlying 26 = some (.array 4 25) := Tryz.underlying26
  have h0 : (0 : Int) ≤ (i : Int) ∧ (i : Int) < 4 := by omega
  simp [Instr.indexAt, go_sem, hu, h0, ptv, iv, h]
noncomputable def ops6y : List Oper := (regionAt Tryz.f13 6).toList
def rd6y : List Nat := [2, 3, 4, 5, 6, 7, 8]
def low6y (ba bb br bs bo r : Nat) : List Value := [undef, undef, ptv ba, ptv bb, ptv br, .bool false, ptv bs, ptv bo, iv r]
def v6y (ba bb br bs bo r : Nat) (a : List Fr) (m : Mt) (t : Nat) : Value := if t < 24 then nth (low6y ba bb br bs bo r) t else nth [ptv bs, iv r, iv (4 * r), ptv ba, .pointer (some ⟨ba, 4 * r * 3, none⟩), frv (a.getD (4 * r) zK), ptv bb, .pointer (some ⟨bb, 0 * 3, none⟩), frv (mrow m 0), frv (vN (timesI (a.getD (4 * r) zK) (mrow m 0)))] (t - 24)
def als6y : List (Nat × Nat) := [(9, 10)]
def st6y (t : Nat) : Nat := t - 8
theorem mk6y : alsOk ops6y als6y = true := by kernel_rfl
theorem ln6y : ops6y.length = 12 ∧ callsTo ops6y 12 = 2 := ⟨by kernel_rfl, by kernel_rfl⟩
theorem ok6y : opsOk ops6y 24 rd6y als6y none 0 ops6y = true := by kernel_rfl
set_option maxRecDepth 100000 in
set_option maxHeartbeats 8000000 in
theorem reg6y (W0 : World) (ba bb br bs bo r : Nat) (a : List Fr) (m : Mt) (bad : Bool) (hr : r < 4) (hbs : bs < W0.heap.size) (hA : FAt W0 ba (4 * r * 3) (a.getD (4 * r) zK)) (hA1 : ba < W0.heap.size) (hA2 : ba ≠ bs) (hB : FAt W0 bb (0 * 3) (mrow m 0)) (hB1 : bb < W0.heap.size) (hB2 : bb ≠ bs) :
    Obs als6y (v6y ba bb br bs bo r a m) ops6y (RJ W0 bs (badL bad [(timesI (a.getD (4 * r) zK) (mrow m 0)).isNone]) als6y st6y z3c (fun _ => frc (vN (timesI (a.getD (4 * r) zK) (mrow m 0)))) 25) Tryz.prog 24 0 0 ops6y := by
    refine obs_move (i := 0) rfl rfl rfl rfl ?_
    refine obs_move (i := 1) rfl rfl rfl rfl ?_
    refine obs_bin (i := 2) rfl rfl rfl rfl rfl (bin_mul _ _ 4 r (by omega)) ?_
    refine obs_field (i := 3) rfl rfl rfl rfl (fun w => rfl) ?_
    refine obs_indexT (i := 4) rfl rfl rfl rfl rfl (idx_at ba (4 * r) (by omega)) ?_
    refine obs_load (i := 5) rfl rfl rfl rfl (rj_loadF hA hA1 hA2) ?_
    refine obs_field (i := 6) rfl rfl rfl rfl (fun w => rfl) ?_
    refine obs_index (i := 7) rfl rfl rfl rfl (idx_at4y bb 0 (by omega)) ?_
    refine obs_load (i := 8) rfl rfl rfl rfl (rj_loadF hB hB1 hB2) ?_
    refine obs_call (i := 9) (k := 0) rfl rfl Tryz.func37 rfl rfl rfl rfl (rj_call [ptv bs, frv (a.getD (4 * r) zK), frv (mrow m 0)] (frv (vN (timesI (a.getD (4 * r) zK) (mrow m 0)))) hbs (ix_ne rfl) rfl (fun w h _ => x_times (a.getD (4 * r) zK) (mrow m 0) bs w h)) ?_
    refine obs_alloc (i := 10) rfl rfl rfl (rj_alloc (t := 9) rfl run_allocFr) ?_
    refine obs_store (i := 11) (k := 1) rfl rfl rfl rfl rfl (rj_store (t := 9) hbs rfl (ix_inj rfl) rfl rfl (frc_one _) sz_Frac) ?_
    exact obs_nil rfl
noncomputable def ops10y : List Oper := (regionAt Tryz.f13 10).toList
def rd10y : List Nat := [2, 3, 4, 5, 6, 7, 8, 9, 10]
def v10y (ba bb br bs bo r fb k : Nat) (a : List Fr) (m : Mt) (acc : Fr) (t : Nat) : Value := if t < 38 then nth (low6y ba bb br bs bo r ++ [ptv fb, iv k]) t else nth [ptv bs, frv acc, ptv bs, iv r, iv (4 * r), iv k, iv (4 * r + k), ptv ba, .pointer (some ⟨ba, (4 * r + k) * 3, none⟩), frv (a.getD (4 * r + k) zK), iv k, ptv bb, .pointer (some ⟨bb, k * 3, none⟩), frv (mrow m k), frv (vN (timesI (a.getD (4 * r + k) zK) (mrow m k))), frv (vN (addI acc (vN (timesI (a.getD (4 * r + k) zK) (mrow m k)))))] (t - 38)
def fc10y (x y : Fr) (k : Nat) : Array Value := if k < 3 then frc x else frc y
theorem ln10y : ops10y.length = 17 ∧ callsTo ops10y 17 = 3 := ⟨by kernel_rfl, by kernel_rfl⟩
theorem kb10y : kb ops10y 1 = 1 := by kernel_rfl
theorem ok10y : opsOk ops10y 38 rd10y [] none 0 ops10y = true := by kernel_rfl
set_option maxRecDepth 100000 in
set_option maxHeartbeats 8000000 in
theorem reg10y (W0 : World) (ba bb br bs bo r fb k : Nat) (a : List Fr) (m : Mt) (acc : Fr) (bad : Bool) (hr : r < 4) (hk : k < 4) (hbs : bs < W0.heap.size) (hfb : fb < W0.heap.size) (hne : fb ≠ bs) (hA : FAt W0 ba ((4 * r + k) * 3) (a.getD (4 * r + k) zK)) (hA1 : ba < W0.heap.size) (hA2 : ba ≠ bs) (hA3 : ba ≠ fb) (hB : FAt W0 bb (k * 3) (mrow m k)) (hB1 : bb < W0.heap.size) (hB2 : bb ≠ bs) (hB3 : bb ≠ fb) :
    Obs [] (v10y ba bb br bs bo r fb k a m acc) ops10y (RKm W0 bs fb (badL bad [(timesI (a.getD (4 * r + k) zK) (mrow m k)).isNone, (addI acc (vN (timesI (a.getD (4 * r + k) zK) (mrow m k)))).isNone]) (fc10y acc (vN (addI acc (vN (timesI (a.getD (4 * r + k) zK) (mrow m k)))))) 25) Tryz.prog 38 0 0 ops10y := by
    have lA : ∀ mm kk w, kk ≤ 1 → RKm W0 bs fb (badL bad [(timesI (a.getD (4 * r + k) zK) (mrow m k)).isNone, (addI acc (vN (timesI (a.getD (4 * r + k) zK) (mrow m k)))).isNone]) (fc10y acc (vN (addI acc (vN (timesI (a.getD (4 * r + k) zK) (mrow m k)))))) 25 mm kk w → (Instr.loadAt 25 (.pointer (some ⟨fb, 0, none⟩))).run Tryz.prog w = .ok (frv acc) w := rk_loadA (cs := frc acc) (fun k' hk' => if_pos (by omega)) Tryz.underlying25 rfl sz_Frac
    refine obs_move (i := 0) rfl rfl rfl rfl ?_
    refine obs_loadK (c := 1) (i := 1) rfl rfl rfl rfl kb10y lA ?_
    refine obs_move (i := 2) rfl rfl rfl rfl ?_
    refine obs_move (i := 3) rfl rfl rfl rfl ?_
    refine obs_bin (i := 4) rfl rfl rfl rfl rfl (bin_mul _ _ 4 r (by omega)) ?_
    refine obs_move (i := 5) rfl rfl rfl rfl ?_
    refine obs_bin (i := 6) rfl rfl rfl rfl rfl (bin_add _ _ (4 * r) k (by omega)) ?_
    refine obs_field (i := 7) rfl rfl rfl rfl (fun w => rfl) ?_
    refine obs_indexT (i := 8) rfl rfl rfl rfl rfl (idx_at ba (4 * r + k) (by omega)) ?_
    refine obs_load (i := 9) rfl rfl rfl rfl (rk_loadF hA hA1 hA2 hA3) ?_
    refine obs_move (i := 10) rfl rfl rfl rfl ?_
    refine obs_field (i := 11) rfl rfl rfl rfl (fun w => rfl) ?_
    refine obs_indexT (i := 12) rfl rfl rfl rfl rfl (idx_at4y bb k (by omega)) ?_
    refine obs_load (i := 13) rfl rfl rfl rfl (rk_loadF hB hB1 hB2 hB3) ?_
    refine obs_call (i := 14) (k := 0) rfl rfl Tryz.func37 rfl rfl rfl rfl (rk_call [ptv bs, frv (a.getD (4 * r + k) zK), frv (mrow m k)] (frv (vN (timesI (a.getD (4 * r + k) zK) (mrow m k)))) hbs hfb hne rfl rfl (fun w h => x_times (a.getD (4 * r + k) zK) (mrow m k) bs w h)) ?_
    refine obs_call (i := 15) (k := 1) rfl rfl Tryz.func45 rfl rfl rfl rfl (rk_call [ptv bs, frv acc, frv (vN (timesI (a.getD (4 * r + k) zK) (mrow m k)))] (frv (vN (addI acc (vN (timesI (a.getD (4 * r + k) zK) (mrow m k)))))) hbs hfb hne rfl rfl (fun w h => x_add acc (vN (timesI (a.getD (4 * r + k) zK) (mrow m k))) bs w h)) ?_
    refine obs_storeF (i := 16) (k := 2) rfl rfl rfl rfl rfl rfl (rk_store hne rfl rfl (frc_one _) sz_Frac) ?_
    exact obs_nil rfl
end
section
open Go.RowKit
attribute [local go_sem ↓] Go.wp_at_zero Go.wp_at_succ
theorem stk_row {w : World} {xs : List Fr} : ((w.alloc (.cells (tbc xs) 28)).alloc (.cells (tbc zs4) 28)).heap[w.heap.size]? = some (.cells (tbc xs) 28 (0, 0)) :=
  (Below.heap_alloc _ _ _ (by simp)).trans (heap_alloc_last w _)
theorem stk_new {w : World} {xs : List Fr} : ((w.alloc (.cells (tbc xs) 28)).alloc (.cells (tbc zs4) 28)).heap[w.heap.size + 1]? = some (.cells (tbc zs4) 28 (0, 0)) := by
  have := heap_alloc_last (w.alloc (.cells (tbc xs) 28)) (.cells (tbc zs4) 28)
  rwa [World.size_alloc] at this
set_option maxRecDepth 100000 in
set_option maxHeartbeats 2000000 in
theorem got_stkT (xs : List Fr) (bs : Nat) (w : World) (hx : xs.length = 4) (hs : SumIs w bs false) :
    Calls Tryz.prog 51 #[.pointer (some ⟨bs, 0, none⟩), .agg (tbc xs)] w fun e w' => e = .returned (.tuple #[.agg (tbc xs), .bool true]) ∧ Below w.heap.size w w' := by
  have hlt := hs.lt
  have hcs := hs.cell
  go_enter Tryz.func51, Tryz.ntmps51
  go_wp2_with (first | (refine wpList_load_row rfl 28 _ rfl w.heap.size rfl 28 (tbc xs) (0, 0) _ stk_row Tryz.underlying28 rfl (szStk xs hx) ?_) | (refine wpList_store_row rfl 28 _ _ rfl (w.heap.size + 1) (tbc xs) rfl rfl 28 (tbc zs4) stk_new (szStk xs hx) (by rw [tbc_size, tbc_size, hx]; rfl) (tbc_one _) ?_))
  refine bodyPost_ret (v := .tuple #[.agg (tbc xs), .bool true]) (results_row_slot Tryz.results51 _ _ (w.heap.size + 1) 28 (tbc xs) (0, 0) _ rfl (setRow_heap _ _ (tbc zs4) _ _ _ stk_new) Tryz.underlying28 rfl (szStk xs hx)) rfl ⟨rfl, below_setRow (((Below.refl _ _).alloc (Nat.le_refl _) _).alloc (by simp) _) (by omega) _⟩
set_option maxRecDepth 100000 in
set_option maxHeartbeats 2000000 in
theorem got_stkF (xs : List Fr) (bs : Nat) (w : World) (hx : xs.length = 4) (hs : SumIs w bs true) :
    Calls Tryz.prog 51 #[.pointer (some ⟨bs, 0, none⟩), .agg (tbc xs)] w fun e w' => e = .returned (.tuple #[.agg (tbc zs4), .bool false]) ∧ Below w.heap.size w w' := by
  have hlt := hs.lt
  have hcs := hs.cell
  have hz6 : (((w.alloc (.cells (tbc xs) 28)).alloc (.cells (tbc zs4) 28)).alloc (.cells (tbc zs4) 28)).heap[w.heap.size + 1 + 1]? = some (.cells (tbc zs4) 28 (0, 0)) := by
    have := heap_alloc_last ((w.alloc (.cells (tbc xs) 28)).alloc (.cells (tbc zs4) 28)) (.cells (tbc zs4) 28)
    rwa [World.size_alloc, World.size_alloc] at this
  have hz4 : (((w.alloc (.cells (tbc xs) 28)).alloc (.cells (tbc zs4) 28)).alloc (.cells (tbc zs4) 28)).heap[w.heap.size + 1]? = some (.cells (tbc zs4) 28 (0, 0)) := (Below.heap_alloc _ _ _ (by simp)).trans stk_new
  go_enter Tryz.func51, Tryz.ntmps51
  go_wp2_with (first | (refine wpList_load_row rfl 28 _ rfl (w.heap.size + 1 + 1) rfl 28 (tbc zs4) (0, 0) _ hz6 Tryz.underlying28 rfl (szStk _ rfl) ?_) | (refine wpList_store_row rfl 28 _ _ rfl (w.heap.size + 1) (tbc zs4) rfl rfl 28 (tbc zs4) hz4 (szStk _ rfl) rfl (tbc_one _) ?_))
  refine bodyPost_ret (v := .tuple #[.agg (tbc zs4), .bool false]) (results_row_slot Tryz.results51 _ _ (w.heap.size + 1) 28 (tbc zs4) (0, 0) _ rfl (setRow_heap _ _ (tbc zs4) _ _ _ hz4) Tryz.underlying28 rfl (szStk _ rfl)) rfl ⟨rfl, below_setRow ((((Below.refl _ _).alloc (Nat.le_refl _) _).alloc (by simp) _).alloc (by simp; omega) _) (by omega) _⟩
end
section
open Go.RowKit
attribute [local go_sem ↓] Go.wp_at_zero Go.wp_at_succ
theorem istk_row (m : Mt) (w : World) : Calls Tryz.prog 19 #[.agg (tbc (row4 m))] w fun e w' => e = .returned (.bool (mreal m)) ∧ Below w.heap.size w w' := stokes_any m w
def zpi4 (xs : List Fr) (n : Nat) : List Fr := xs ++ List.replicate (4 - n) ⟨0, 0, 0⟩
theorem zpi4_set (a : List Fr) (m : Mt) (n : Nat) (h : n < 4) : (zpi4 (taI a m n).1 n).set n (dotI (trow a n) (mrow m) 4).1 = zpi4 (taI a m (n + 1)).1 (n + 1) := by
  unfold zpi4
  have hl := ta_len a m n
  rw [List.set_append, if_neg (by omega), hl, Nat.sub_self, show 4 - n = 4 - (n + 1) + 1 by omega, List.replicate_succ, List.set_cons_zero]
  simp [taI]
theorem zpi4_len (a : List Fr) (m : Mt) (n : Nat) (h : n ≤ 4) : (zpi4 (taI a m n).1 n).length = 4 := by
  unfold zpi4; rw [List.length_append, ta_len, List.length_replicate]; omega
/-- What the rounds keep. -/
structure TZ (w : World) (bo : Nat) (a : List Fr) (m : Mt) (out : List Fr) (bad : Bool) (W : World) : Prop where
  B : Below w.heap.size w W
  ta : TbIs W w.heap.size a
  tb : Blk W (w.heap.size + 1) (tbc (row4 m)) 28
  tr : Blk W (w.heap.size + 1 + 1) (tbc zs4) 28
  s : SumIs W (w.heap.size + 1 + 1 + 1) bad
  o : Blk W bo (tbc out) 28
  l : w.heap.size + 1 + 1 + 1 < bo
theorem TZ.kept {w W W' : World} {bo : Nat} {a out : List Fr} {m : Mt} {bad bad' : Bool} (h : TZ w bo a m out bad W) (q1 : W'.os = W.os) (q2 : W'.tape = W.tape) (q3 : W'.output = W.output) (q4 : W.heap.size ≤ W'.heap.size) {fb : Nat} (hf : bo < fb ∨ fb = (w.heap.size + 1 + 1 + 1)) (hb : ∀ k, k < W.heap.size → k ≠ (w.heap.size + 1 + 1 + 1) → k ≠ fb → W'.heap[k]? = W.heap[k]?) (s : SumIs W' (w.heap.size + 1 + 1 + 1) bad') : TZ w bo a m out bad' W' := by
  have l1 := h.ta.lt
  have l2 := blk_lt h.tb
  have l3 := blk_lt h.tr
  have l4 := blk_lt h.o
  have l5 := h.l
  exact ⟨h.B.trans ⟨q1, q2, q3, q4, fun k hk => hb k (by omega) (by omega) (by omega)⟩, h.ta.same (hb _ l1 (by omega) (by omega)), (hb _ l2 (by omega) (by omega)).trans h.tb, (hb _ l3 (by omega) (by omega)).trans h.tr, s, (hb _ l4 (by omega) (by omega)).trans h.o, h.l⟩
theorem TZ.stepX {w W W' : World} {bo : Nat} {a out : List Fr} {m : Mt} {bad bad' : Bool} (h : TZ w bo a m out bad W) (X : BelX W.heap.size (w.heap.size + 1 + 1 + 1) W W') (s : SumIs W' (w.heap.size + 1 + 1 + 1) bad') : TZ w bo a m out bad' W' :=
  h.kept X.os X.tape X.output X.size (fb := (w.heap.size + 1 + 1 + 1)) (.inr rfl) (fun k hk h1 _ => X.block k hk h1) s
theorem TZ.stepK {w W W' : World} {bo fb k : Nat} {a out : List Fr} {m : Mt} {bad : Bool} {bd : Nat → Bool} {fc : Nat → Array Value} {ty : TypeId} (h : TZ w bo a m out bad W) (X : RK W (w.heap.size + 1 + 1 + 1) fb bd fc ty k W') (hf : bo < fb) : TZ w bo a m out (bd k) W' :=
  h.kept X.os X.tape X.output X.size (.inl hf) X.block X.s
/-- Before the rounds: the blocks as they were laid. -/
structure TZ0 (w : World) (a : List Fr) (m : Mt) (W : World) : Prop where
  B : Below w.heap.size w W
  a : TbIs W w.heap.size a
  b : Blk W (w.heap.size + 1) (tbc (row4 m)) 28
  r : Blk W (w.heap.size + 1 + 1) (tbc zs4) 28
structure TZA (w : World) (a : List Fr) (m : Mt) (bad : Bool) (W : World) : Prop where
  t : TZ0 w a m W
  s : SumIs W (w.heap.size + 1 + 1 + 1) bad
theorem TZ0.step {w W W' : World} {a : List Fr} {m : Mt} (h : TZ0 w a m W) (hb : Below W.heap.size W W') : TZ0 w a m W' := ⟨bstep h.B hb h.B.size, h.a.below hb h.a.lt, (hb.block _ (blk_lt h.b)).trans h.b, (hb.block _ (blk_lt h.r)).trans h.r⟩
theorem TZ0.done {w W W' : World} {a : List Fr} {m : Mt} {bad bad' : Bool} (h : TZ0 w a m W) (X : BelX W.heap.size (w.heap.size + 1 + 1 + 1) W W') (s : SumIs W' (w.heap.size + 1 + 1 + 1) (bad || bad')) : TZA w a m (bad || bad') W' :=
  ⟨⟨((BelX.of h.B).trans (X.mono h.B.size)).below (by omega), h.a.step X (by omega), (X.block _ (blk_lt h.b) (by omega)).trans h.b, (X.block _ (blk_lt h.r) (by omega)).trans h.r⟩, s⟩
theorem TZ.put {w W : World} {bo : Nat} {a out : List Fr} {m : Mt} {bad : Bool} (h : TZ w bo a m out bad W) {n : Nat} (hn : n < out.length) (v : Fr) :
    TZ w bo a m (out.set n v) bad (((W.setCell ⟨bo, n * 3, none⟩ (.int .i64 v.re)).setCell ⟨bo, n * 3 + 1, none⟩ (.int .i64 v.im)).setCell ⟨bo, n * 3 + 2, none⟩ (.int .i64 v.den)) := by
  have l := h.l
  have far : ∀ k, k ≠ bo → (((W.setCell ⟨bo, n * 3, none⟩ (.int .i64 v.re)).setCell ⟨bo, n * 3 + 1, none⟩ (.int .i64 v.im)).setCell ⟨bo, n * 3 + 2, none⟩ (.int .i64 v.den)).heap[k]? = W.heap[k]? := fun k hk => (Below.heap_setCell _ _ _ k hk).trans ((Below.heap_setCell _ _ _ k hk).trans (Below.heap_setCell _ _ _ k hk))
  exact ⟨((h.B.setCell (by show w.heap.size ≤ bo; omega) _).setCell (by show w.heap.size ≤ bo; omega) _).setCell (by show w.heap.size ≤ bo; omega) _, h.ta.same (far _ (by omega)), (far _ (by omega)).trans h.tb, (far _ (by omega)).trans h.tr, (far _ (by omega)).trans h.s, blk_put h.o hn v, h.l⟩
set_option maxRecDepth 100000 in
set_option maxHeartbeats 8000000 in
theorem apply_go (a : List Fr) (m : Mt) (ha : a.length = 16) (ok : Bool) (hok : ok = (a.all realOk && mreal m)) (w : World) :
    Calls Tryz.prog 13 #[.agg (tbc a), .agg (tbc (row4 m))] w fun e w' => e = .returned (tkb (tapI a m)) ∧ Below w.heap.size w w' := by
  have e5 : TZ0 w a m ((((w.alloc (.cells (tbc a) 44)).alloc (.cells (tbc (row4 m)) 28)).alloc (.cells (tbc zs4) 28)).alloc (.cells #[.bool false] 64)) := by
    refine ⟨((((Below.refl _ _).alloc (Nat.le_refl _) _).alloc (by simp) _).alloc (by simp; omega) _).alloc (by simp; omega) _, (((TbIs.new w a).alloc _).alloc _).alloc _, ?_, ?_⟩
    · refine (Below.heap_alloc _ _ _ (by simp)).trans ((Below.heap_alloc _ _ _ (by simp)).trans ?_)
      have := heap_alloc_last (w.alloc (.cells (tbc a) 44)) (.cells (tbc (row4 m)) 28)
      rwa [World.size_alloc] at this
    · refine (Below.heap_alloc _ _ _ (by simp)).trans ?_
      have := heap_alloc_last ((w.alloc (.cells (tbc a) 44)).alloc (.cells (tbc (row4 m)) 28)) (.cells (tbc zs4) 28)
      rwa [World.size_alloc, World.size_alloc] at this
  go_enter Tryz.func13, Tryz.ntmps13
  go_upto_region 1 with fail
  go_cut [6] from 11 to 19 (fun s6 W => s6 = .pointer (some ⟨(w.heap.size + 1 + 1 + 1), 0, none⟩) ∧ TZA w a m (!ok) W)
  case first =>
    cases hva : a.all realOk
    · have hok2 : ok = false := by rw [hok, hva]; rfl
      subst hok2
      clear hok
      go_wp2_with (first | (refine wpList_load_row rfl 44 _ rfl w.heap.size rfl 44 (tbc a) (0, 0) _ e5.a Tryz.underlying44 rfl (szTab a ha) ?_) | (go_at_call 50; (with_reducible refine (tvalid_any a _ ha).mono ?_); rw [hva]; rintro e wa ⟨rfl, hba⟩; have hsa : SumIs wa (w.heap.size + 1 + 1 + 1) false := SumIs.below (SumIs.new' (by simp)) hba (by simp); have HT1 := Lib.hid (e5.step hba); clear hba) | (go_at_call 26; first | (with_reducible refine (x_need false (w.heap.size + 1 + 1 + 1) _ (SumEx.of hsb)).mono ?_; rintro e wc ⟨rfl, hu, hx⟩; have HTB := Lib.hid (HT2.out.done hx (hu _ hsb)); clear hu hx) | (with_reducible refine (x_need true (w.heap.size + 1 + 1 + 1) _ (SumEx.of hsb)).mono ?_; rintro e wc ⟨rfl, hu, hx⟩; have HTB := Lib.hid (HT2.out.done hx (hu _ hsb)); clear hu hx) | (with_reducible refine (x_need false (w.heap.size + 1 + 1 + 1) _ (SumEx.of hsa)).mono ?_; rintro e wc ⟨rfl, hu, hx⟩; have HTB := Lib.hid (HT1.out.done hx (hu _ hsa)); clear hu hx)))
      go_meet
      case rel => exact ⟨rfl, HTB.out⟩
    · cases hvb : mreal m
      · have hok2 : ok = false := by rw [hok, hva, hvb]; rfl
        subst hok2
        clear hok
        go_wp2_with (first | (refine wpList_load_row rfl 44 _ rfl w.heap.size rfl 44 (tbc a) (0, 0) _ e5.a Tryz.underlying44 rfl (szTab a ha) ?_) | (refine wpList_load_rowG 28 _ rfl rfl (w.heap.size + 1) rfl 28 (tbc (row4 m)) (0, 0) _ HT1.out.b Tryz.underlying28 rfl (szStk (row4 m) rfl) ?_) | (go_at_call 19; (with_reducible refine (istk_row m wa).mono ?_); rw [hvb]; rintro e wb ⟨rfl, hbb⟩; have hsb : SumIs wb (w.heap.size + 1 + 1 + 1) false := SumIs.below hsa hbb hsa.lt; have HT2 := Lib.hid (HT1.out.step hbb); clear hbb) | (go_at_call 50; (with_reducible refine (tvalid_any a _ ha).mono ?_); rw [hva]; rintro e wa ⟨rfl, hba⟩; have hsa : SumIs wa (w.heap.size + 1 + 1 + 1) false := SumIs.below (SumIs.new' (by simp)) hba (by simp); have HT1 := Lib.hid (e5.step hba); clear hba) | (go_at_call 26; first | (with_reducible refine (x_need false (w.heap.size + 1 + 1 + 1) _ (SumEx.of hsb)).mono ?_; rintro e wc ⟨rfl, hu, hx⟩; have HTB := Lib.hid (HT2.out.done hx (hu _ hsb)); clear hu hx) | (with_reducible refine (x_need true (w.heap.size + 1 + 1 + 1) _ (SumEx.of hsb)).mono ?_; rintro e wc ⟨rfl, hu, hx⟩; have HTB := Lib.hid (HT2.out.done hx (hu _ hsb)); clear hu hx) | (with_reducible refine (x_need false (w.heap.size + 1 + 1 + 1) _ (SumEx.of hsa)).mono ?_; rintro e wc ⟨rfl, hu, hx⟩; have HTB := Lib.hid (HT1.out.done hx (hu _ hsa)); clear hu hx)))
        go_meet
        case rel => exact ⟨rfl, HTB.out⟩
      · have hok2 : ok = true := by rw [hok, hva, hvb]; rfl
        subst hok2
        clear hok
        go_wp2_with (first | (refine wpList_load_row rfl 44 _ rfl w.heap.size rfl 44 (tbc a) (0, 0) _ e5.a Tryz.underlying44 rfl (szTab a ha) ?_) | (refine wpList_load_rowG 28 _ rfl rfl (w.heap.size + 1) rfl 28 (tbc (row4 m)) (0, 0) _ HT1.out.b Tryz.underlying28 rfl (szStk (row4 m) rfl) ?_) | (go_at_call 19; (with_reducible refine (istk_row m wa).mono ?_); rw [hvb]; rintro e wb ⟨rfl, hbb⟩; have hsb : SumIs wb (w.heap.size + 1 + 1 + 1) false := SumIs.below hsa hbb hsa.lt; have HT2 := Lib.hid (HT1.out.step hbb); clear hbb) | (go_at_call 50; (with_reducible refine (tvalid_any a _ ha).mono ?_); rw [hva]; rintro e wa ⟨rfl, hba⟩; have hsa : SumIs wa (w.heap.size + 1 + 1 + 1) false := SumIs.below (SumIs.new' (by simp)) hba (by simp); have HT1 := Lib.hid (e5.step hba); clear hba) | (go_at_call 26; first | (with_reducible refine (x_need false (w.heap.size + 1 + 1 + 1) _ (SumEx.of hsb)).mono ?_; rintro e wc ⟨rfl, hu, hx⟩; have HTB := Lib.hid (HT2.out.done hx (hu _ hsb)); clear hu hx) | (with_reducible refine (x_need true (w.heap.size + 1 + 1 + 1) _ (SumEx.of hsb)).mono ?_; rintro e wc ⟨rfl, hu, hx⟩; have HTB := Lib.hid (HT2.out.done hx (hu _ hsb)); clear hu hx) | (with_reducible refine (x_need false (w.heap.size + 1 + 1 + 1) _ (SumEx.of hsa)).mono ?_; rintro e wc ⟨rfl, hu, hx⟩; have HTB := Lib.hid (HT1.out.done hx (hu _ hsa)); clear hu hx)))
        go_meet
        case rel => exact ⟨rfl, HTB.out⟩
  obtain ⟨q6, hTA⟩ := hcut
  subst q6
  rename World => w1
  clear e5
  have hsl := hTA.s.lt
  go_upto_region 3 with fail
  obtain ⟨bo, hbo⟩ : ∃ b, b = w1.heap.size := ⟨_, rfl⟩
  obtain ⟨W2, hW2, hT⟩ : ∃ W, W = w1.alloc (.cells (tbc zs4) 28) ∧ TZ w bo a m (zpi4 (taI a m 0).1 0) (!ok || (taI a m 0).2) W := by
    refine ⟨_, rfl, hTA.t.B.alloc hTA.t.B.size _, hTA.t.a.alloc _, (Below.heap_alloc _ _ _ (blk_lt hTA.t.b)).trans hTA.t.b, (Below.heap_alloc _ _ _ (blk_lt hTA.t.r)).trans hTA.t.r, ?_, by rw [hbo]; exact heap_alloc_last w1 _, by omega⟩
    have := hTA.s.alloc (.cells (tbc zs4) 28)
    simpa [taI] using this
  have hW3 : W2 = w1.alloc (.cells #[.int .i64 0, .int .i64 0, .int .i64 0, .int .i64 0, .int .i64 0, .int .i64 0, .int .i64 0, .int .i64 0, .int .i64 0, .int .i64 0, .int .i64 0, .int .i64 0] 28) := hW2
  rw [← hW3, ← hbo]
  clear hW2 hW3 hbo hTA hsl
  go_wp2
  go_loopw [8, 9, 10, 21] (fun _ _ _ i wr => ∃ r : Nat, r ≤ 4 ∧ i = .int .i64 r ∧ TZ w bo a m (zpi4 (taI a m r).1 r) (!ok || (taI a m r).2) wr) (fun _ _ _ i _ => 4 - (intOf i).toNat)
  case atStart => exact ⟨0, by omega, rfl, hT⟩
  case round =>
    clear hT
    rename World => wc0
    obtain ⟨r, hr, rfl, hT⟩ := hrel
    by_cases hr4 : r < 4
    · have hri : (r : Int) < 4 := by omega
      go_upto_region 6 with fail
      have gA := hT.ta.get (i := 4 * r) (by omega)
      have gB := blk_get (xs := row4 m) hT.tb (i := 0) (show 0 < 4 by decide)
      have lA := hT.ta.lt
      have lB := blk_lt hT.tb
      have lS := hT.s.lt
      have lO := blk_lt hT.o
      have lW := hT.l
      go_cut [9] from 24 to 35 (fun s9 W => ∃ fb : Nat, s9 = .pointer (some ⟨fb, 0, none⟩) ∧ bo < fb ∧ Blk W fb (frc (dotI (trow a r) (mrow m) 1).1) 25 ∧ TZ w bo a m (zpi4 (taI a m r).1 r) ((!ok || (taI a m r).2) || (dotI (trow a r) (mrow m) 1).2) W)
      case first =>
        rename_i J K' hJ hK
        refine region_sim (als := als6y) (rd := rd6y) (V := v6y w.heap.size (w.heap.size + 1) (w.heap.size + 1 + 1) (w.heap.size + 1 + 1 + 1) bo r a m) (J := RJ wc0 (w.heap.size + 1 + 1 + 1) (badL (!ok || (taI a m r).2) [(timesI (a.getD (4 * r) zK) (mrow m 0)).isNone]) als6y st6y z3c (fun _ => frc (vN (timesI (a.getD (4 * r) zK) (mrow m 0)))) 25) (base := 24) (L := ops6y) mixO (by kernel_rfl) (ix_lt rfl) ok6y (reg6y wc0 w.heap.size (w.heap.size + 1) (w.heap.size + 1 + 1) (w.heap.size + 1 + 1 + 1) bo r a m (!ok || (taI a m r).2) hr4 lS gA lA (by omega) gB lB (by omega)) ?_ (by rw [ln6y.1]; simp) ?_ (rj_start hT.s)
        · intro mm a' W hJW hmade hsz hkeep hlow hup hal
          rw [ln6y.1, ln6y.2] at hJW
          rw [ln6y.1] at hkeep
          have hmd := made_of mk6y hmade
          have kp := hkeep.2.2
          obtain ⟨b9, e9⟩ := hmd (9, 10) (by simp [als6y])
          obtain ⟨g9, k9⟩ := hJW.b 9 b9 e9
          have l9 := hal 9 b9 rfl e9
          have ed : dotI (trow a r) (mrow m) 1 = (vN (timesI (a.getD (4 * r) zK) (mrow m 0)), (timesI (a.getD (4 * r) zK) (mrow m 0)).isNone) := by rw [dot1]; rfl
          exact hK _ _ (Met.intro (hJ _ _ ⟨a'.eval (.tmp 9), a'.eval (.tmp 24), a'.eval (.tmp 25), a'.eval (.tmp 26), a'.eval (.tmp 27), a'.eval (.tmp 28), a'.eval (.tmp 29), a'.eval (.tmp 30), a'.eval (.tmp 31), a'.eval (.tmp 32), a'.eval (.tmp 33), a'.eval (.tmp 34), a'.eval (.tmp 35), ⟨b9, l9, Nat.lt_of_lt_of_le lO g9, by rw [ed]; exact k9, by rw [ed]; exact hT.stepX hJW.X hJW.s⟩, act_ext3 64 _ rfl hkeep.2.1 hkeep.1 (fun t ht => match t, ht with | 0, _ => (kp 0 (by decide)) | 1, _ => (kp 1 (by decide)) | 2, _ => (kp 2 (by decide)) | 3, _ => (kp 3 (by decide)) | 4, _ => (kp 4 (by decide)) | 5, _ => (kp 5 (by decide)) | 6, _ => (kp 6 (by decide)) | 7, _ => (kp 7 (by decide)) | 8, _ => (kp 8 (by decide)) | 9, _ => rfl | 10, _ => (kp 10 (by decide)) | 11, _ => (kp 11 (by decide)) | 12, _ => (kp 12 (by decide)) | 13, _ => (kp 13 (by decide)) | 14, _ => (kp 14 (by decide)) | 15, _ => (kp 15 (by decide)) | 16, _ => (kp 16 (by decide)) | 17, _ => (kp 17 (by decide)) | 18, _ => (kp 18 (by decide)) | 19, _ => (kp 19 (by decide)) | 20, _ => (kp 20 (by decide)) | 21, _ => (kp 21 (by decide)) | 22, _ => (kp 22 (by decide)) | 23, _ => (kp 23 (by decide)) | 24, _ => rfl | 25, _ => rfl | 26, _ => rfl | 27, _ => rfl | 28, _ => rfl | 29, _ => rfl | 30, _ => rfl | 31, _ => rfl | 32, _ => rfl | 33, _ => rfl | 34, _ => rfl | 35, _ => rfl | 36, _ => (kp 36 (by decide)) | 37, _ => (kp 37 (by decide)) | 38, _ => (kp 38 (by decide)) | 39, _ => (kp 39 (by decide)) | 40, _ => (kp 40 (by decide)) | 41, _ => (kp 41 (by decide)) | 42, _ => (kp 42 (by decide)) | 43, _ => (kp 43 (by decide)) | 44, _ => (kp 44 (by decide)) | 45, _ => (kp 45 (by decide)) | 46, _ => (kp 46 (by decide)) | 47, _ => (kp 47 (by decide)) | 48, _ => (kp 48 (by decide)) | 49, _ => (kp 49 (by decide)) | 50, _ => (kp 50 (by decide)) | 51, _ => (kp 51 (by decide)) | 52, _ => (kp 52 (by decide)) | 53, _ => (kp 53 (by decide)) | 54, _ => (kp 54 (by decide)) | 55, _ => (kp 55 (by decide)) | 56, _ => (kp 56 (by decide)) | 57, _ => (kp 57 (by decide)) | 58, _ => (kp 58 (by decide)) | 59, _ => (kp 59 (by decide)) | 60, _ => (kp 60 (by decide)) | 61, _ => (kp 61 (by decide)) | 62, _ => (kp 62 (by decide)) | 63, _ => (kp 63 (by decide)) | n + 64, h => absurd h (by omega))⟩))
        · intro t ht
          simp only [rd6y, List.mem_cons, List.not_mem_nil, or_false] at ht
          rcases ht with rfl | rfl | rfl | rfl | rfl | rfl | rfl <;> rfl
      clear gA gB lA lB lS lO hT
      obtain ⟨fb, qf, hfb, hB, hT⟩ := hcut
      subst qf
      rename World => wd0
      go_wp2
      go_loopw [10] (fun i wr => ∃ k : Nat, 1 ≤ k ∧ k ≤ 4 ∧ i = .int .i64 k ∧ Blk wr fb (frc (dotI (trow a r) (mrow m) k).1) 25 ∧ TZ w bo a m (zpi4 (taI a m r).1 r) ((!ok || (taI a m r).2) || (dotI (trow a r) (mrow m) k).2) wr) (fun i _ => 4 - (intOf i).toNat)
      case atStart => exact ⟨1, by omega, by omega, rfl, hB, hT⟩
      case round =>
        clear hB hT
        rename World => we0
        obtain ⟨k, hk1, hk, rfl, hB, hT⟩ := hrel
        by_cases hk4 : k < 4
        · have hki : (k : Int) < 4 := by omega
          go_upto_region 10 with fail
          have gA := hT.ta.get (i := 4 * r + k) (by omega)
          have gB := blk_get (xs := row4 m) hT.tb (i := k) hk4
          have lA := hT.ta.lt
          have lB := blk_lt hT.tb
          have lS := hT.s.lt
          have lO := blk_lt hT.o
          have lF := blk_lt hB
          refine wp_then_k (fun KK hKK => ?_)
          go_cut [9] from 38 to 53 (fun s9 W => s9 = .pointer (some ⟨fb, 0, none⟩) ∧ Blk W fb (frc (dotI (trow a r) (mrow m) (k + 1)).1) 25 ∧ TZ w bo a m (zpi4 (taI a m r).1 r) ((!ok || (taI a m r).2) || (dotI (trow a r) (mrow m) (k + 1)).2) W)
          case first =>
            rename_i J K' hJ hK
            refine region_sim (als := []) (rd := rd10y) (V := v10y w.heap.size (w.heap.size + 1) (w.heap.size + 1 + 1) (w.heap.size + 1 + 1 + 1) bo r fb k a m (dotI (trow a r) (mrow m) k).1) (J := RKm we0 (w.heap.size + 1 + 1 + 1) fb (badL ((!ok || (taI a m r).2) || (dotI (trow a r) (mrow m) k).2) [(timesI (a.getD (4 * r + k) zK) (mrow m k)).isNone, (addI (dotI (trow a r) (mrow m) k).1 (vN (timesI (a.getD (4 * r + k) zK) (mrow m k)))).isNone]) (fc10y (dotI (trow a r) (mrow m) k).1 (vN (addI (dotI (trow a r) (mrow m) k).1 (vN (timesI (a.getD (4 * r + k) zK) (mrow m k)))))) 25) (base := 38) (L := ops10y) mixO (by kernel_rfl) (by intro t h; simp [ixOf] at h) ok10y (reg10y we0 w.heap.size (w.heap.size + 1) (w.heap.size + 1 + 1) (w.heap.size + 1 + 1 + 1) bo r fb k a m (dotI (trow a r) (mrow m) k).1 ((!ok || (taI a m r).2) || (dotI (trow a r) (mrow m) k).2) hr4 hk4 lS lF (by omega) gA lA (by omega) (by omega) gB lB (by omega) (by omega)) ?_ (by rw [ln10y.1]; simp) ?_ (rk_start hT.s hB)
            · intro mm a' W hJW hmade hsz hkeep hlow hup hal
              rw [ln10y.1, ln10y.2] at hJW
              rw [ln10y.1] at hkeep
              have kp := hkeep.2.2
              have l9 := hlow 9 (by decide) rfl rfl
              have hRK : RK we0 (w.heap.size + 1 + 1 + 1) fb _ _ 25 3 W := hJW
              have ed : dotI (trow a r) (mrow m) (k + 1) = ((vN (addI (dotI (trow a r) (mrow m) k).1 (vN (timesI (a.getD (4 * r + k) zK) (mrow m k))))), ((dotI (trow a r) (mrow m) k).2 || (timesI (a.getD (4 * r + k) zK) (mrow m k)).isNone) || (addI (dotI (trow a r) (mrow m) k).1 (vN (timesI (a.getD (4 * r + k) zK) (mrow m k)))).isNone) := dotS1 (trow a r) (mrow m) k hk1
              have hTn := hT.stepK hRK hfb
              exact hK _ _ (Met.intro (hJ _ _ ⟨a'.eval (.tmp 9), a'.eval (.tmp 38), a'.eval (.tmp 39), a'.eval (.tmp 40), a'.eval (.tmp 41), a'.eval (.tmp 42), a'.eval (.tmp 43), a'.eval (.tmp 44), a'.eval (.tmp 45), a'.eval (.tmp 46), a'.eval (.tmp 47), a'.eval (.tmp 48), a'.eval (.tmp 49), a'.eval (.tmp 50), a'.eval (.tmp 51), a'.eval (.tmp 52), a'.eval (.tmp 53), ⟨l9, by rw [ed]; exact hRK.c, by rw [ed]; simp only [← Bool.or_assoc]; exact hTn⟩, act_ext3 64 _ rfl hkeep.2.1 hkeep.1 (fun t ht => match t, ht with | 0, _ => (kp 0 (by decide)) | 1, _ => (kp 1 (by decide)) | 2, _ => (kp 2 (by decide)) | 3, _ => (kp 3 (by decide)) | 4, _ => (kp 4 (by decide)) | 5, _ => (kp 5 (by decide)) | 6, _ => (kp 6 (by decide)) | 7, _ => (kp 7 (by decide)) | 8, _ => (kp 8 (by decide)) | 9, _ => rfl | 10, _ => (kp 10 (by decide)) | 11, _ => (kp 11 (by decide)) | 12, _ => (kp 12 (by decide)) | 13, _ => (kp 13 (by decide)) | 14, _ => (kp 14 (by decide)) | 15, _ => (kp 15 (by decide)) | 16, _ => (kp 16 (by decide)) | 17, _ => (kp 17 (by decide)) | 18, _ => (kp 18 (by decide)) | 19, _ => (kp 19 (by decide)) | 20, _ => (kp 20 (by decide)) | 21, _ => (kp 21 (by decide)) | 22, _ => (kp 22 (by decide)) | 23, _ => (kp 23 (by decide)) | 24, _ => (kp 24 (by decide)) | 25, _ => (kp 25 (by decide)) | 26, _ => (kp 26 (by decide)) | 27, _ => (kp 27 (by decide)) | 28, _ => (kp 28 (by decide)) | 29, _ => (kp 29 (by decide)) | 30, _ => (kp 30 (by decide)) | 31, _ => (kp 31 (by decide)) | 32, _ => (kp 32 (by decide)) | 33, _ => (kp 33 (by decide)) | 34, _ => (kp 34 (by decide)) | 35, _ => (kp 35 (by decide)) | 36, _ => (kp 36 (by decide)) | 37, _ => (kp 37 (by decide)) | 38, _ => rfl | 39, _ => rfl | 40, _ => rfl | 41, _ => rfl | 42, _ => rfl | 43, _ => rfl | 44, _ => rfl | 45, _ => rfl | 46, _ => rfl | 47, _ => rfl | 48, _ => rfl | 49, _ => rfl | 50, _ => rfl | 51, _ => rfl | 52, _ => rfl | 53, _ => rfl | 54, _ => (kp 54 (.inr (.inr ⟨by decide, by kernel_rfl⟩))) | 55, _ => (kp 55 (by decide)) | 56, _ => (kp 56 (by decide)) | 57, _ => (kp 57 (by decide)) | 58, _ => (kp 58 (by decide)) | 59, _ => (kp 59 (by decide)) | 60, _ => (kp 60 (by decide)) | 61, _ => (kp 61 (by decide)) | 62, _ => (kp 62 (by decide)) | 63, _ => (kp 63 (by decide)) | n + 64, h => absurd h (by omega))⟩))
            · intro t ht
              simp only [rd10y, List.mem_cons, List.not_mem_nil, or_false] at ht
              rcases ht with rfl | rfl | rfl | rfl | rfl | rfl | rfl | rfl | rfl <;> rfl
          clear gA gB lA lB lS lO lF hB hT
          obtain ⟨qf, hB, hT⟩ := hcut
          subst qf
          refine hKK _ _ ?_
          go_wp2
          go_roundw
          case rel => exact ⟨k + 1, by omega, by omega, by go_num, hB, hT⟩
          case measure => simp [intOf]; omega
        · obtain rfl : k = 4 := by omega
          obtain ⟨f0, f1, f2⟩ := blk_fat hB
          obtain ⟨o0, o1', o2⟩ := blk_get hT.o (i := r) (by rw [zpi4_len _ _ _ (by omega)]; exact hr4)
          have fO := blk_free hT.o
          go_wp2
          go_roundw
          case rel =>
            refine ⟨r + 1, by omega, by go_num, ?_⟩
            have hp := hT.put (n := r) (by rw [zpi4_len _ _ _ (by omega)]; exact hr4) (dotI (trow a r) (mrow m) 4).1
            rw [zpi4_set a m r hr4] at hp
            have e4 : (taI a m (r + 1)).2 = ((taI a m r).2 || (dotI (trow a r) (mrow m) 4).2) := rfl
            rw [e4, ← Bool.or_assoc]
            exact hp
          case measure => simp [intOf]; omega
    · obtain rfl : r = 4 := by omega
      have HOK := Lib.hid hok
      clear hok
      obtain ⟨XS, hXS⟩ : ∃ x, x = (taI a m 4).1 := ⟨_, rfl⟩
      have hXl : XS.length = 4 := by rw [hXS]; exact ta_len _ _ _
      have hpad : zpi4 (taI a m 4).1 4 = XS := by rw [hXS]; simp [zpi4]
      rw [hpad] at hT
      have HXS := Lib.hid hXS
      clear hXS hpad
      have hOX := hT.o
      cases hbb : (!ok || (taI a m 4).2)
      · have hs6 : SumIs wc0 (w.heap.size + 1 + 1 + 1) false := hbb ▸ hT.s
        have hE : tkb (tapI a m) = .tuple #[.agg (tbc XS), .bool true] := by
          unfold tapI
          rw [← HOK.out, hbb, ← HXS.out]
          obtain ⟨x, y, z, u, rfl⟩ : ∃ x y z u, XS = [x, y, z, u] := by
            match XS, hXl with
            | [x, y, z, u], _ => exact ⟨x, y, z, u, rfl⟩
          rfl
        have HE := Lib.hid hE
        clear hbb hE
        go_wp2_with (first | (refine wpList_load_row rfl 28 _ rfl bo rfl 28 (tbc XS) (0, 0) _ hOX Tryz.underlying28 rfl (szStk XS hXl) ?_) | (go_at_call 51; (with_reducible refine (got_stkT XS (w.heap.size + 1 + 1 + 1) _ hXl hs6).mono ?_); rintro e w7 ⟨rfl, hb7⟩; have hr7 : Blk w7 (w.heap.size + 1 + 1) (tbc zs4) 28 := (hb7.block _ (blk_lt hT.tr)).trans hT.tr; have hB7 : Below w.heap.size w w7 := bstep hT.B hb7 hT.B.size; clear hb7) | (refine wpList_store_row rfl 28 _ _ rfl (w.heap.size + 1 + 1) (tbc XS) rfl rfl 28 (tbc zs4) hr7 (szStk _ hXl) (by rw [tbc_size, tbc_size, hXl]; rfl) (tbc_one _) ?_))
        refine bodyPost_ret (v := tkb (tapI a m)) ((results_row_slot Tryz.results13 _ _ (w.heap.size + 1 + 1) 28 (tbc XS) (0, 0) _ rfl (setRow_heap _ _ (tbc zs4) _ _ _ hr7) Tryz.underlying28 rfl (szStk _ hXl)).trans ?_) rfl ⟨rfl, below_setRow hB7 (by omega) _⟩
        rw [HE.out]
        rfl
      · have hs6 : SumIs wc0 (w.heap.size + 1 + 1 + 1) true := hbb ▸ hT.s
        have hE : tapI a m = none := by
          unfold tapI
          rw [← HOK.out, hbb]
          rfl
        have HE := Lib.hid hE
        clear hbb hE
        go_wp2_with (first | (refine wpList_load_row rfl 28 _ rfl bo rfl 28 (tbc XS) (0, 0) _ hOX Tryz.underlying28 rfl (szStk XS hXl) ?_) | (go_at_call 51; (with_reducible refine (got_stkF XS (w.heap.size + 1 + 1 + 1) _ hXl hs6).mono ?_); rintro e w7 ⟨rfl, hb7⟩; have hr7 : Blk w7 (w.heap.size + 1 + 1) (tbc zs4) 28 := (hb7.block _ (blk_lt hT.tr)).trans hT.tr; have hB7 : Below w.heap.size w w7 := bstep hT.B hb7 hT.B.size; clear hb7) | (refine wpList_store_row rfl 28 _ _ rfl (w.heap.size + 1 + 1) (tbc zs4) rfl rfl 28 (tbc zs4) hr7 (szStk _ rfl) rfl (tbc_one _) ?_))
        refine bodyPost_ret (v := tkb (tapI a m)) ((results_row_slot Tryz.results13 _ _ (w.heap.size + 1 + 1) 28 (tbc zs4) (0, 0) _ rfl (setRow_heap _ _ (tbc zs4) _ _ _ hr7) Tryz.underlying28 rfl (szStk _ rfl)).trans ?_) rfl ⟨rfl, below_setRow hB7 (by omega) _⟩
        rw [HE.out]
        rfl
theorem apply_any (a : List Fr) (m : Mt) (ha : a.length = 16) (w : World) :
    Calls Tryz.prog 13 #[.agg (tbc a), mtv m] w fun e w' => e = .returned (tkb (tapI a m)) ∧ Below w.heap.size w w' := apply_go a m ha _ rfl w
end
end Go.Proofs.YtodhbkinbcemnaaGreatDoor
