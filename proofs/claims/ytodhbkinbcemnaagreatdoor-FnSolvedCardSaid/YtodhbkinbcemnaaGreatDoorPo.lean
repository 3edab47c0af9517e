/-
  Texts of this claim, joined: To; Tp. Nothing is claimed here; the other texts of this claim use it.
-/
import Derived.Test.YtodhbkinbcemnaaGreatDoorPj
import Derived.Test.YtodhbkinbcemnaaGreatDoorPk
import Derived.IntWalk
import Derived.Deep.CutRange
namespace Go.Proofs.YtodhbkinbcemnaaGreatDoor
set_option linter.unusedSimpArgs false
set_option linter.unusedVariables false
section
open Go.RowKit
def iv (n : Nat) : Value := .int .i64 (n : Int)
theorem bin_mul (x y : Operand) (m n : Nat) (h : m * n < 1000) (w : World) : (eqGuard .mul 3 x y (iv m) (iv n)).run Tryz.prog w = .ok () w ∧ (binOp .mul 3 (iv m) (iv n)).run Tryz.prog w = .ok (iv (m * n)) w := by
  refine ⟨by simp [eqGuard], ?_⟩
  have hw : IntKind.i64.wrap ((m : Int) * (n : Int)) = ((m * n : Nat) : Int) := by
    rw [← Int.natCast_mul]
    generalize m * n = q at h ⊢
    rw [IntKind.wrap_i64]; omega
  simp [go_sem, iv, hw]
theorem bin_add (x y : Operand) (m n : Nat) (h : m + n < 1000) (w : World) : (eqGuard .add 3 x y (iv m) (iv n)).run Tryz.prog w = .ok () w ∧ (binOp .add 3 (iv m) (iv n)).run Tryz.prog w = .ok (iv (m + n)) w := by
  refine ⟨by simp [eqGuard], ?_⟩
  have hw : IntKind.i64.wrap ((m : Int) + (n : Int)) = ((m + n : Nat) : Int) := by
    rw [← Int.natCast_add]
    generalize m + n = q at h ⊢
    rw [IntKind.wrap_i64]; omega
  simp [go_sem, iv, hw]
theorem idx_at (b i : Nat) (h : i < 16) (w : World) : (Instr.indexAt 42 (ptv b) (iv i)).run Tryz.prog w = .ok (.pointer (some ⟨b, i * 3, none⟩)) w := by
  have hu : (Tryz.prog).underlying 42 = some (.array 16 25) := Tryz.underlying42
  have h0 : (0 : Int) ≤ (i : Int) ∧ (i : Int) < 16 := by omega
  simp [Instr.indexAt, go_sem, hu, h0, ptv, iv, h]
theorem rj_loadF {W0 : World} {bs : Nat} {bad : Nat → Bool} {als : List (Nat × Nat)} {st : Nat → Nat} {cz : Array Value} {cv : Nat → Array Value} {ty : TypeId} {b o : Nat} {f : Fr} (hF : FAt W0 b o f) (hlt : b < W0.heap.size) (h1 : b ≠ bs) :
    ∀ m k w, RJ W0 bs bad als st cz cv ty m k w → (Instr.loadAt 25 (.pointer (some ⟨b, o, none⟩))).run Tryz.prog w = .ok (frv f) w := by
  intro m k w h
  have e := h.X.block b hlt h1
  obtain ⟨c0, c1, c2⟩ := hF
  have d0 := (World.cell?_of_block (w := W0) (w' := w) (a := ⟨b, o, none⟩) e).trans c0
  have d1 := (World.cell?_of_block (w := W0) (w' := w) (a := ⟨b, o + 1, none⟩) e).trans c1
  have d2 := (World.cell?_of_block (w := W0) (w' := w) (a := ⟨b, o + 2, none⟩) e).trans c2
  simp [go_sem, d0, d1, d2]
noncomputable def ops9 : List Oper := (regionAt Tryz.f64 9).toList
def rd9 : List Nat := [2, 3, 4, 5, 6, 7, 8, 9]
def low9 (ba bb br bs bo r c : Nat) : List Value := [undef, undef, ptv ba, ptv bb, ptv br, .bool false, ptv bs, ptv bo, iv r, iv c]
def v9 (ba bb br bs bo r c : Nat) (a b : List Fr) (t : Nat) : Value := if t < 28 then nth (low9 ba bb br bs bo r c) t else nth [ptv bs, iv r, iv (4 * r), ptv ba, .pointer (some ⟨ba, 4 * r * 3, none⟩), frv (a.getD (4 * r) zK), iv c, ptv bb, .pointer (some ⟨bb, c * 3, none⟩), frv (b.getD c zK), frv (vN (timesI (a.getD (4 * r) zK) (b.getD c zK)))] (t - 28)
def als9 : List (Nat × Nat) := [(10, 11)]
def st9 (t : Nat) : Nat := t - 9
theorem mk9 : alsOk ops9 als9 = true := by kernel_rfl
theorem ln9 : ops9.length = 13 ∧ callsTo ops9 13 = 2 := ⟨by kernel_rfl, by kernel_rfl⟩
theorem ok9 : opsOk ops9 28 rd9 als9 none 0 ops9 = true := by kernel_rfl
set_option maxRecDepth 100000 in
set_option maxHeartbeats 4000000 in
theorem reg9 (W0 : World) (ba bb br bs bo r c : Nat) (a b : List Fr) (bad : Bool) (hr : r < 4) (hc : c < 4) (hbs : bs < W0.heap.size) (hA : FAt W0 ba (4 * r * 3) (a.getD (4 * r) zK)) (hA1 : ba < W0.heap.size) (hA2 : ba ≠ bs) (hB : FAt W0 bb (c * 3) (b.getD c zK)) (hB1 : bb < W0.heap.size) (hB2 : bb ≠ bs) :
    Obs als9 (v9 ba bb br bs bo r c a b) ops9 (RJ W0 bs (badL bad [(timesI (a.getD (4 * r) zK) (b.getD c zK)).isNone]) als9 st9 z3c (fun _ => frc (vN (timesI (a.getD (4 * r) zK) (b.getD c zK)))) 25) Tryz.prog 28 0 0 ops9 := by
    refine obs_move (i := 0) rfl rfl rfl rfl ?_
    refine obs_move (i := 1) rfl rfl rfl rfl ?_
    refine obs_bin (i := 2) rfl rfl rfl rfl rfl (bin_mul _ _ 4 r (by omega)) ?_
    refine obs_field (i := 3) rfl rfl rfl rfl (fun w => rfl) ?_
    refine obs_indexT (i := 4) rfl rfl rfl rfl rfl (idx_at ba (4 * r) (by omega)) ?_
    refine obs_load (i := 5) rfl rfl rfl rfl (rj_loadF hA hA1 hA2) ?_
    refine obs_move (i := 6) rfl rfl rfl rfl ?_
    refine obs_field (i := 7) rfl rfl rfl rfl (fun w => rfl) ?_
    refine obs_indexT (i := 8) rfl rfl rfl rfl rfl (idx_at bb c (by omega)) ?_
    refine obs_load (i := 9) rfl rfl rfl rfl (rj_loadF hB hB1 hB2) ?_
    refine obs_call (i := 10) (k := 0) rfl rfl Tryz.func37 rfl rfl rfl rfl (rj_call [ptv bs, frv (a.getD (4 * r) zK), frv (b.getD c zK)] (frv (vN (timesI (a.getD (4 * r) zK) (b.getD c zK)))) hbs (ix_ne rfl) rfl (fun w h _ => x_times (a.getD (4 * r) zK) (b.getD c zK) bs w h)) ?_
    refine obs_alloc (i := 11) rfl rfl rfl (rj_alloc (t := 10) rfl run_allocFr) ?_
    refine obs_store (i := 12) (k := 1) rfl rfl rfl rfl rfl (rj_store (t := 10) hbs rfl (ix_inj rfl) rfl rfl (frc_one _) sz_Frac) ?_
    exact obs_nil rfl
noncomputable def ops13 : List Oper := (regionAt Tryz.f64 13).toList
def rd13 : List Nat := [2, 3, 4, 5, 6, 7, 8, 9, 10, 11]
def v13 (ba bb br bs bo r c fb k : Nat) (a b : List Fr) (acc : Fr) (t : Nat) : Value := if t < 43 then nth (low9 ba bb br bs bo r c ++ [ptv fb, iv k]) t else nth [ptv bs, frv acc, ptv bs, iv r, iv (4 * r), iv k, iv (4 * r + k), ptv ba, .pointer (some ⟨ba, (4 * r + k) * 3, none⟩), frv (a.getD (4 * r + k) zK), iv k, iv (4 * k), iv c, iv (4 * k + c), ptv bb, .pointer (some ⟨bb, (4 * k + c) * 3, none⟩), frv (b.getD (4 * k + c) zK), frv (vN (timesI (a.getD (4 * r + k) zK) (b.getD (4 * k + c) zK))), frv (vN (addI acc (vN (timesI (a.getD (4 * r + k) zK) (b.getD (4 * k + c) zK)))))] (t - 43)
def fc13 (x y : Fr) (k : Nat) : Array Value := if k < 3 then frc x else frc y
theorem ln13 : ops13.length = 20 ∧ callsTo ops13 20 = 3 := ⟨by kernel_rfl, by kernel_rfl⟩
theorem kb13 : kb ops13 1 = 1 := by kernel_rfl
theorem ok13 : opsOk ops13 43 rd13 [] none 0 ops13 = true := by kernel_rfl
set_option maxRecDepth 100000 in
set_option maxHeartbeats 4000000 in
theorem reg13 (W0 : World) (ba bb br bs bo r c fb k : Nat) (a b : List Fr) (acc : Fr) (bad : Bool) (hr : r < 4) (hc : c < 4) (hk : k < 4) (hbs : bs < W0.heap.size) (hfb : fb < W0.heap.size) (hne : fb ≠ bs) (hA : FAt W0 ba ((4 * r + k) * 3) (a.getD (4 * r + k) zK)) (hA1 : ba < W0.heap.size) (hA2 : ba ≠ bs) (hA3 : ba ≠ fb) (hB : FAt W0 bb ((4 * k + c) * 3) (b.getD (4 * k + c) zK)) (hB1 : bb < W0.heap.size) (hB2 : bb ≠ bs) (hB3 : bb ≠ fb) :
    Obs [] (v13 ba bb br bs bo r c fb k a b acc) ops13 (RKm W0 bs fb (badL bad [(timesI (a.getD (4 * r + k) zK) (b.getD (4 * k + c) zK)).isNone, (addI acc (vN (timesI (a.getD (4 * r + k) zK) (b.getD (4 * k + c) zK)))).isNone]) (fc13 acc (vN (addI acc (vN (timesI (a.getD (4 * r + k) zK) (b.getD (4 * k + c) zK)))))) 25) Tryz.prog 43 0 0 ops13 := by
    have lA : ∀ mm kk w, kk ≤ 1 → RKm W0 bs fb (badL bad [(timesI (a.getD (4 * r + k) zK) (b.getD (4 * k + c) zK)).isNone, (addI acc (vN (timesI (a.getD (4 * r + k) zK) (b.getD (4 * k + c) zK)))).isNone]) (fc13 acc (vN (addI acc (vN (timesI (a.getD (4 * r + k) zK) (b.getD (4 * k + c) zK)))))) 25 mm kk w → (Instr.loadAt 25 (.pointer (some ⟨fb, 0, none⟩))).run Tryz.prog w = .ok (frv acc) w := rk_loadA (cs := frc acc) (fun k' hk' => if_pos (by omega)) Tryz.underlying25 rfl sz_Frac
    refine obs_move (i := 0) rfl rfl rfl rfl ?_
    refine obs_loadK (c := 1) (i := 1) rfl rfl rfl rfl kb13 lA ?_
    refine obs_move (i := 2) rfl rfl rfl rfl ?_
    refine obs_move (i := 3) rfl rfl rfl rfl ?_
    refine obs_bin (i := 4) rfl rfl rfl rfl rfl (bin_mul _ _ 4 r (by omega)) ?_
    refine obs_move (i := 5) rfl rfl rfl rfl ?_
    refine obs_bin (i := 6) rfl rfl rfl rfl rfl (bin_add _ _ (4 * r) k (by omega)) ?_
    refine obs_field (i := 7) rfl rfl rfl rfl (fun w => rfl) ?_
    refine obs_indexT (i := 8) rfl rfl rfl rfl rfl (idx_at ba (4 * r + k) (by omega)) ?_
    refine obs_load (i := 9) rfl rfl rfl rfl (rk_loadF hA hA1 hA2 hA3) ?_
    refine obs_move (i := 10) rfl rfl rfl rfl ?_
    refine obs_bin (i := 11) rfl rfl rfl rfl rfl (bin_mul _ _ 4 k (by omega)) ?_
    refine obs_move (i := 12) rfl rfl rfl rfl ?_
    refine obs_bin (i := 13) rfl rfl rfl rfl rfl (bin_add _ _ (4 * k) c (by omega)) ?_
    refine obs_field (i := 14) rfl rfl rfl rfl (fun w => rfl) ?_
    refine obs_indexT (i := 15) rfl rfl rfl rfl rfl (idx_at bb (4 * k + c) (by omega)) ?_
    refine obs_load (i := 16) rfl rfl rfl rfl (rk_loadF hB hB1 hB2 hB3) ?_
    refine obs_call (i := 17) (k := 0) rfl rfl Tryz.func37 rfl rfl rfl rfl (rk_call [ptv bs, frv (a.getD (4 * r + k) zK), frv (b.getD (4 * k + c) zK)] (frv (vN (timesI (a.getD (4 * r + k) zK) (b.getD (4 * k + c) zK)))) hbs hfb hne rfl rfl (fun w h => x_times (a.getD (4 * r + k) zK) (b.getD (4 * k + c) zK) bs w h)) ?_
    refine obs_call (i := 18) (k := 1) rfl rfl Tryz.func45 rfl rfl rfl rfl (rk_call [ptv bs, frv acc, frv (vN (timesI (a.getD (4 * r + k) zK) (b.getD (4 * k + c) zK)))] (frv (vN (addI acc (vN (timesI (a.getD (4 * r + k) zK) (b.getD (4 * k + c) zK)))))) hbs hfb hne rfl rfl (fun w h => x_add acc (vN (timesI (a.getD (4 * r + k) zK) (b.getD (4 * k + c) zK))) bs w h)) ?_
    refine obs_storeF (i := 19) (k := 2) rfl rfl rfl rfl rfl rfl (rk_store hne rfl rfl (frc_one _) sz_Frac) ?_
    exact obs_nil rfl
end
section
open Go.RowKit
attribute [local go_sem ↓] Go.wp_at_zero Go.wp_at_succ
/-- What the rounds of TableTimes keep. -/
structure TT (w : World) (bo : Nat) (a b out : List Fr) (bad : Bool) (W : World) : Prop where
  B : Below w.heap.size w W
  ta : TbIs W w.heap.size a
  tb : TbIs W (w.heap.size + 1) b
  tr : TbIs W (w.heap.size + 1 + 1) zs16
  s : SumIs W (w.heap.size + 1 + 1 + 1) bad
  o : TbIs W bo out
  l : w.heap.size + 1 + 1 + 1 < bo
theorem TT.kept {w W W' : World} {bo : Nat} {a b out : List Fr} {bad bad' : Bool} (h : TT w bo a b out bad W) (q1 : W'.os = W.os) (q2 : W'.tape = W.tape) (q3 : W'.output = W.output) (q4 : W.heap.size ≤ W'.heap.size) {fb : Nat} (hf : bo < fb ∨ fb = (w.heap.size + 1 + 1 + 1)) (hb : ∀ k, k < W.heap.size → k ≠ (w.heap.size + 1 + 1 + 1) → k ≠ fb → W'.heap[k]? = W.heap[k]?) (s : SumIs W' (w.heap.size + 1 + 1 + 1) bad') : TT w bo a b out bad' W' := by
  have l1 := h.ta.lt
  have l2 := h.tb.lt
  have l3 := h.tr.lt
  have l4 := h.o.lt
  have l5 := h.l
  exact ⟨h.B.trans ⟨q1, q2, q3, q4, fun k hk => hb k (by omega) (by omega) (by omega)⟩, h.ta.same (hb _ l1 (by omega) (by omega)), h.tb.same (hb _ l2 (by omega) (by omega)), h.tr.same (hb _ l3 (by omega) (by omega)), s, h.o.same (hb _ l4 (by omega) (by omega)), h.l⟩
theorem TT.stepX {w W W' : World} {bo : Nat} {a b out : List Fr} {bad bad' : Bool} (h : TT w bo a b out bad W) (X : BelX W.heap.size (w.heap.size + 1 + 1 + 1) W W') (s : SumIs W' (w.heap.size + 1 + 1 + 1) bad') : TT w bo a b out bad' W' :=
  h.kept X.os X.tape X.output X.size (fb := (w.heap.size + 1 + 1 + 1)) (.inr rfl) (fun k hk h1 _ => X.block k hk h1) s
theorem TT.stepK {w W W' : World} {bo fb k : Nat} {a b out : List Fr} {bad : Bool} {bd : Nat → Bool} {fc : Nat → Array Value} {ty : TypeId} (h : TT w bo a b out bad W) (X : RK W (w.heap.size + 1 + 1 + 1) fb bd fc ty k W') (hf : bo < fb) : TT w bo a b out (bd k) W' :=
  h.kept X.os X.tape X.output X.size (.inl hf) X.block X.s
theorem wpList_load_rowG {P : Program} {ops : Array Oper} {rest : List Oper} {o : Oper} {a : Act} {w : World} {Q : Exit → Act → World → Prop} (ty : TypeId) (x : Operand) (ho : o.op = .load ty x) (hw : Region.wanted o (yielded ops a.tmps) = true)
    (g : Nat) (hx : a.eval x = .pointer (some ⟨g, 0, none⟩)) (t : TypeId) (cs : Array Value) (fr : Nat × Nat) (d : TypeDesc) (hg : w.heap[g]? = some (.cells cs t fr))
    (hu : P.underlying ty = some d) (hd : (match d with | .struct _ | .array _ _ => true | _ => false) = true) (hi : (P.info? ty).map (·.size) = some cs.size)
    (h : wpList P ops Q rest (a.put o.dst (.agg cs)) w) : wpList P ops Q (o :: rest) a w :=
  wpList_step fun K hK => by rw [if_pos hw]; exact wp_load_row ty x ho g hx t cs fr d hg hu hd hi (hK _ _ h)
/-- Before the rounds: the blocks as they were laid. -/
structure TA0 (w : World) (a b : List Fr) (W : World) : Prop where
  B : Below w.heap.size w W
  a : TbIs W w.heap.size a
  b : TbIs W (w.heap.size + 1) b
  r : TbIs W (w.heap.size + 1 + 1) zs16
structure TA (w : World) (a b : List Fr) (bad : Bool) (W : World) : Prop where
  t : TA0 w a b W
  s : SumIs W (w.heap.size + 1 + 1 + 1) bad
theorem TA0.step {w W W' : World} {a b : List Fr} (h : TA0 w a b W) (hb : Below W.heap.size W W') : TA0 w a b W' := ⟨bstep h.B hb h.B.size, h.a.below hb h.a.lt, h.b.below hb h.b.lt, h.r.below hb h.r.lt⟩
theorem TA0.done {w W W' : World} {a b : List Fr} {bad bad' : Bool} (h : TA0 w a b W) (X : BelX W.heap.size (w.heap.size + 1 + 1 + 1) W W') (s : SumIs W' (w.heap.size + 1 + 1 + 1) (bad || bad')) : TA w a b (bad || bad') W' :=
  ⟨⟨((BelX.of h.B).trans (X.mono h.B.size)).below (by omega), h.a.step X (by omega), h.b.step X (by omega), h.r.step X (by omega)⟩, s⟩
def zpad (xs : List Fr) (n : Nat) : List Fr := xs ++ List.replicate (16 - n) zK
theorem zpad_set (a b : List Fr) (n : Nat) (h : n < 16) : (zpad (ttI a b n).1 n).set n (dotI (trow a (n / 4)) (tcol b (n % 4)) 4).1 = zpad (ttI a b (n + 1)).1 (n + 1) := by
  unfold zpad
  have hl := tt_len a b n
  rw [List.set_append, if_neg (by omega), hl, Nat.sub_self, show 16 - n = 16 - (n + 1) + 1 by omega, List.replicate_succ, List.set_cons_zero]
  simp [ttI]
theorem TT.put {w W : World} {bo : Nat} {a b out : List Fr} {bad : Bool} (h : TT w bo a b out bad W) {n : Nat} (hn : n < out.length) (v : Fr) :
    TT w bo a b (out.set n v) bad (((W.setCell ⟨bo, n * 3, none⟩ (.int .i64 v.re)).setCell ⟨bo, n * 3 + 1, none⟩ (.int .i64 v.im)).setCell ⟨bo, n * 3 + 2, none⟩ (.int .i64 v.den)) := by
  have l := h.l
  have far : ∀ k, k ≠ bo → (((W.setCell ⟨bo, n * 3, none⟩ (.int .i64 v.re)).setCell ⟨bo, n * 3 + 1, none⟩ (.int .i64 v.im)).setCell ⟨bo, n * 3 + 2, none⟩ (.int .i64 v.den)).heap[k]? = W.heap[k]? := fun k hk => (Below.heap_setCell _ _ _ k hk).trans ((Below.heap_setCell _ _ _ k hk).trans (Below.heap_setCell _ _ _ k hk))
  exact ⟨((h.B.setCell (by show w.heap.size ≤ bo; omega) _).setCell (by show w.heap.size ≤ bo; omega) _).setCell (by show w.heap.size ≤ bo; omega) _, h.ta.same (far _ (by omega)), h.tb.same (far _ (by omega)), h.tr.same (far _ (by omega)), (far _ (by omega)).trans h.s, h.o.put hn v, h.l⟩
theorem TT.alloc {w W : World} {bo : Nat} {a b out : List Fr} {bad : Bool} (h : TT w bo a b out bad W) (x : Obj) : TT w bo a b out bad (W.alloc x) := ⟨h.B.alloc h.B.size x, h.ta.alloc x, h.tb.alloc x, h.tr.alloc x, h.s.alloc x, h.o.alloc x, h.l⟩
theorem blk_fat {W : World} {ty : TypeId} {b : Nat} {f : Fr} (h : Blk W b (frc f) ty) : W.cell? ⟨b, 0, none⟩ = some (.int .i64 f.re) ∧ W.cell? ⟨b, 1, none⟩ = some (.int .i64 f.im) ∧ W.cell? ⟨b, 2, none⟩ = some (.int .i64 f.den) := by
  refine ⟨?_, ?_, ?_⟩ <;> simp [World.cell?, h, frc]
theorem wp_then_k {P : Program} {s : Code} {Q : Exit → Act → World → Prop} {a : Act} {w : World} (h : ∀ K : Act → World → Prop, (∀ a w, Q .normal a w → K a w) → s.wp P (Exit.then K Q) a w) : s.wp P Q a w := by
  refine wp_mono (h (fun a w => Q .normal a w) (fun _ _ q => q)) ?_
  intro e a' w' hq
  cases e <;> exact hq
theorem dot1 (r c : Nat → Fr) : dotI r c 1 = (vN (timesI (r 0) (c 0)), (timesI (r 0) (c 0)).isNone) := rfl
theorem dotS1 (r c : Nat → Fr) (k : Nat) (h : 1 ≤ k) : dotI r c (k + 1) = (vN (addI (dotI r c k).1 (vN (timesI (r k) (c k)))), ((dotI r c k).2 || (timesI (r k) (c k)).isNone) || (addI (dotI r c k).1 (vN (timesI (r k) (c k)))).isNone) := by
  have : k ≠ 0 := by omega
  simp only [dotI, if_neg this]
theorem zpad_len (a b : List Fr) (n : Nat) (h : n ≤ 16) : (zpad (ttI a b n).1 n).length = 16 := by
  unfold zpad; rw [List.length_append, tt_len, List.length_replicate]; omega
set_option maxRecDepth 100000 in
set_option maxHeartbeats 8000000 in
theorem ttimes_go (a b : List Fr) (ha : a.length = 16) (hb : b.length = 16) (ok : Bool) (hok : ok = (a.all realOk && b.all realOk)) (w : World) :
    Calls Tryz.prog 64 #[.agg (tbc a), .agg (tbc b)] w fun e w' => e = .returned (tbb (ttimesI a b)) ∧ Below w.heap.size w w' := by
  have z3 : (((w.alloc (.cells (tbc a) 44)).alloc (.cells (tbc b) 44)).alloc (.cells (tbc zs16) 44)).heap.size = w.heap.size + 1 + 1 + 1 := by simp
  have r0 : TbIs (((w.alloc (.cells (tbc a) 44)).alloc (.cells (tbc b) 44)).alloc (.cells (tbc zs16) 44)) w.heap.size a := ((TbIs.new w a).alloc _).alloc _
  have r1 : TbIs (((w.alloc (.cells (tbc a) 44)).alloc (.cells (tbc b) 44)).alloc (.cells (tbc zs16) 44)) (w.heap.size + 1) b := (TbIs.new' b (by simp)).alloc _
  have r2 : TbIs (((w.alloc (.cells (tbc a) 44)).alloc (.cells (tbc b) 44)).alloc (.cells (tbc zs16) 44)) (w.heap.size + 1 + 1) zs16 := TbIs.new' zs16 (by simp)
  have e0 := r0.alloc (.cells #[.bool false] 64)
  have e1 := r1.alloc (.cells #[.bool false] 64)
  have e5 : TA0 w a b ((((w.alloc (.cells (tbc a) 44)).alloc (.cells (tbc b) 44)).alloc (.cells (tbc zs16) 44)).alloc (.cells #[.bool false] 64)) :=
    ⟨((((Below.refl _ _).alloc (Nat.le_refl _) _).alloc (by simp) _).alloc (by simp; omega) _).alloc (by simp; omega) _, e0, e1, r2.alloc _⟩
  unfold TbIs at e0 e1
  go_enter Tryz.func64, Tryz.ntmps64
  go_upto_region 1 with fail
  go_cut [6] from 12 to 20 (fun s6 W => s6 = .pointer (some ⟨(w.heap.size + 1 + 1 + 1), 0, none⟩) ∧ TA w a b (!ok) W)
  case first =>
    cases hva : a.all realOk
    · have hok2 : ok = false := by rw [hok, hva]; rfl
      subst hok2
      clear hok
      go_wp2_with (first | (refine wpList_load_row rfl 44 _ rfl w.heap.size rfl 44 (tbc a) (0, 0) _ e0 Tryz.underlying44 rfl (szTab a ha) ?_) | (go_at_call 50; (with_reducible refine (tvalid_any a _ ha).mono ?_); rw [hva]; rintro e wa ⟨rfl, hba⟩; have hsa : SumIs wa (w.heap.size + 1 + 1 + 1) false := SumIs.below (SumIs.new' (by simp)) hba (by simp); have HTA := Lib.hid (e5.step hba); clear hba) | (go_at_call 26; first | (with_reducible refine (x_need false (w.heap.size + 1 + 1 + 1) _ (SumEx.of hsb)).mono ?_; rintro e wc ⟨rfl, hu, hx⟩; have HTB := Lib.hid (HT2.out.done hx (hu _ hsb)); clear hu hx) | (with_reducible refine (x_need true (w.heap.size + 1 + 1 + 1) _ (SumEx.of hsb)).mono ?_; rintro e wc ⟨rfl, hu, hx⟩; have HTB := Lib.hid (HT2.out.done hx (hu _ hsb)); clear hu hx) | (with_reducible refine (x_need false (w.heap.size + 1 + 1 + 1) _ (SumEx.of hsa)).mono ?_; rintro e wc ⟨rfl, hu, hx⟩; have HTB := Lib.hid (HTA.out.done hx (hu _ hsa)); clear hu hx)))
      go_meet
      case rel => exact ⟨rfl, HTB.out⟩
    · cases hvb : b.all realOk
      · have hok2 : ok = false := by rw [hok, hva, hvb]; rfl
        subst hok2
        clear hok
        go_wp2_with (first | (refine wpList_load_row rfl 44 _ rfl w.heap.size rfl 44 (tbc a) (0, 0) _ e0 Tryz.underlying44 rfl (szTab a ha) ?_) | (refine wpList_load_rowG 44 _ rfl rfl (w.heap.size + 1) rfl 44 (tbc b) (0, 0) _ HT1.out.b Tryz.underlying44 rfl (szTab b hb) ?_) | (go_at_call 50; (with_reducible refine (tvalid_any b wa hb).mono ?_); rw [hvb]; rintro e wb ⟨rfl, hbb⟩; have hsb : SumIs wb (w.heap.size + 1 + 1 + 1) false := SumIs.below hsa hbb hsa.lt; have HT2 := Lib.hid (HT1.out.step hbb); clear hbb) | (go_at_call 50; (with_reducible refine (tvalid_any a _ ha).mono ?_); rw [hva]; rintro e wa ⟨rfl, hba⟩; have hsa : SumIs wa (w.heap.size + 1 + 1 + 1) false := SumIs.below (SumIs.new' (by simp)) hba (by simp); have HT1 := Lib.hid (e5.step hba); clear hba) | (go_at_call 26; first | (with_reducible refine (x_need false (w.heap.size + 1 + 1 + 1) _ (SumEx.of hsb)).mono ?_; rintro e wc ⟨rfl, hu, hx⟩; have HTB := Lib.hid (HT2.out.done hx (hu _ hsb)); clear hu hx) | (with_reducible refine (x_need true (w.heap.size + 1 + 1 + 1) _ (SumEx.of hsb)).mono ?_; rintro e wc ⟨rfl, hu, hx⟩; have HTB := Lib.hid (HT2.out.done hx (hu _ hsb)); clear hu hx) | (with_reducible refine (x_need false (w.heap.size + 1 + 1 + 1) _ (SumEx.of hsa)).mono ?_; rintro e wc ⟨rfl, hu, hx⟩; have HTB := Lib.hid (HTA.out.done hx (hu _ hsa)); clear hu hx)))
        go_meet
        case rel => exact ⟨rfl, HTB.out⟩
      · have hok2 : ok = true := by rw [hok, hva, hvb]; rfl
        subst hok2
        clear hok
        go_wp2_with (first | (refine wpList_load_row rfl 44 _ rfl w.heap.size rfl 44 (tbc a) (0, 0) _ e0 Tryz.underlying44 rfl (szTab a ha) ?_) | (refine wpList_load_rowG 44 _ rfl rfl (w.heap.size + 1) rfl 44 (tbc b) (0, 0) _ HT1.out.b Tryz.underlying44 rfl (szTab b hb) ?_) | (go_at_call 50; (with_reducible refine (tvalid_any b wa hb).mono ?_); rw [hvb]; rintro e wb ⟨rfl, hbb⟩; have hsb : SumIs wb (w.heap.size + 1 + 1 + 1) false := SumIs.below hsa hbb hsa.lt; have HT2 := Lib.hid (HT1.out.step hbb); clear hbb) | (go_at_call 50; (with_reducible refine (tvalid_any a _ ha).mono ?_); rw [hva]; rintro e wa ⟨rfl, hba⟩; have hsa : SumIs wa (w.heap.size + 1 + 1 + 1) false := SumIs.below (SumIs.new' (by simp)) hba (by simp); have HT1 := Lib.hid (e5.step hba); clear hba) | (go_at_call 26; first | (with_reducible refine (x_need false (w.heap.size + 1 + 1 + 1) _ (SumEx.of hsb)).mono ?_; rintro e wc ⟨rfl, hu, hx⟩; have HTB := Lib.hid (HT2.out.done hx (hu _ hsb)); clear hu hx) | (with_reducible refine (x_need true (w.heap.size + 1 + 1 + 1) _ (SumEx.of hsb)).mono ?_; rintro e wc ⟨rfl, hu, hx⟩; have HTB := Lib.hid (HT2.out.done hx (hu _ hsb)); clear hu hx) | (with_reducible refine (x_need false (w.heap.size + 1 + 1 + 1) _ (SumEx.of hsa)).mono ?_; rintro e wc ⟨rfl, hu, hx⟩; have HTB := Lib.hid (HTA.out.done hx (hu _ hsa)); clear hu hx)))
        go_meet
        case rel => exact ⟨rfl, HTB.out⟩
  obtain ⟨q6, hTA⟩ := hcut
  subst q6
  rename World => w1
  clear e0 e1 e5 r0 r1 r2 z3
  have hz1 := hTA.t.B.size
  have hsl := hTA.s.lt
  obtain ⟨bo, hbo⟩ : ∃ x, x = w1.heap.size := ⟨_, rfl⟩
  have hTT0 : TT w bo a b (zpad (ttI a b (4 * 0)).1 (4 * 0)) (!ok || (ttI a b (4 * 0)).2) ((w1.alloc (.cells (tbc zs16) 44)).setRow bo (tbc zs16)) := by
    have hx : Below bo w1 ((w1.alloc (.cells (tbc zs16) 44)).setRow bo (tbc zs16)) := by
      rw [hbo]; exact below_setRow ((Below.refl _ _).alloc (Nat.le_refl _) _) (Nat.le_refl _) _
    refine ⟨hTA.t.B.trans ⟨hx.os, hx.tape, hx.output, hx.size, fun k hk => hx.block k (by omega)⟩, hTA.t.a.below hx (by rw [hbo]; exact hTA.t.a.lt), hTA.t.b.below hx (by rw [hbo]; exact hTA.t.b.lt), hTA.t.r.below hx (by rw [hbo]; exact hTA.t.r.lt), ?_, ?_, by omega⟩
    · have := hTA.s.below hx (by omega)
      simpa [ttI] using this
    · rw [hbo]; exact setRow_heap _ _ (tbc zs16) _ _ (0, 0) (heap_alloc_last w1 _)
  have hnew : (w1.alloc (.cells (tbc zs16) 44)).heap[w1.heap.size]? = some (.cells (tbc zs16) 44 (0, 0)) := heap_alloc_last w1 _
  rw [hbo] at hTT0
  go_wp2_with (refine wpList_store_row rfl 44 _ _ rfl w1.heap.size (tbc zs16) rfl rfl 44 (tbc zs16) hnew (szTab _ rfl) rfl (tbc_one _) ?_)
  go_loopw [8, 9, 10, 11, 22] (fun _ _ _ _ i wr => ∃ r : Nat, r ≤ 4 ∧ i = .int .i64 r ∧ TT w w1.heap.size a b (zpad (ttI a b (4 * r)).1 (4 * r)) (!ok || (ttI a b (4 * r)).2) wr) (fun _ _ _ _ i _ => 4 - (intOf i).toNat)
  case atStart => exact ⟨0, by omega, rfl, hTT0⟩
  case round =>
    clear hTT0 hnew
    obtain ⟨r, hr, rfl, hT⟩ := hrel
    by_cases hr4 : r < 4
    · have hri : (r : Int) < 4 := by omega
      go_wp2
      go_loopw [9, 10, 11, 25] (fun _ _ _ i wr => ∃ c : Nat, c ≤ 4 ∧ i = .int .i64 c ∧ TT w w1.heap.size a b (zpad (ttI a b (4 * r + c)).1 (4 * r + c)) (!ok || (ttI a b (4 * r + c)).2) wr) (fun _ _ _ i _ => 4 - (intOf i).toNat)
      case atStart => exact ⟨0, by omega, rfl, hT⟩
      case round =>
        clear hT
        rename World => wc0
        obtain ⟨c, hc, rfl, hT⟩ := hrel
        by_cases hc4 : c < 4
        · have hci : (c : Int) < 4 := by omega
          go_upto_region 9 with fail
          have gA := hT.ta.get (i := 4 * r) (by omega)
          have gB := hT.tb.get (i := c) (by omega)
          have lA := hT.ta.lt
          have lB := hT.tb.lt
          have lS := hT.s.lt
          have lO := hT.o.lt
          go_cut [10] from 28 to 40 (fun s10 W => ∃ fb : Nat, s10 = .pointer (some ⟨fb, 0, none⟩) ∧ w1.heap.size < fb ∧ Blk W fb (frc (dotI (trow a r) (tcol b c) 1).1) 25 ∧ TT w w1.heap.size a b (zpad (ttI a b (4 * r + c)).1 (4 * r + c)) ((!ok || (ttI a b (4 * r + c)).2) || (dotI (trow a r) (tcol b c) 1).2) W)
          case first =>
            rename_i J K' hJ hK
            refine region_sim (als := als9) (rd := rd9) (V := v9 w.heap.size (w.heap.size + 1) (w.heap.size + 1 + 1) (w.heap.size + 1 + 1 + 1) w1.heap.size r c a b) (J := RJ wc0 (w.heap.size + 1 + 1 + 1) (badL (!ok || (ttI a b (4 * r + c)).2) [(timesI (a.getD (4 * r) zK) (b.getD c zK)).isNone]) als9 st9 z3c (fun _ => frc (vN (timesI (a.getD (4 * r) zK) (b.getD c zK)))) 25) (base := 28) (L := ops9) mixO (by kernel_rfl) (ix_lt rfl) ok9 (reg9 wc0 w.heap.size (w.heap.size + 1) (w.heap.size + 1 + 1) (w.heap.size + 1 + 1 + 1) w1.heap.size r c a b (!ok || (ttI a b (4 * r + c)).2) hr4 hc4 lS gA lA (by omega) gB lB (by omega)) ?_ (by rw [ln9.1]; simp) ?_ (rj_start hT.s)
            · intro mm a' W hJW hmade hsz hkeep hlow hup hal
              rw [ln9.1, ln9.2] at hJW
              rw [ln9.1] at hkeep
              have hmd := made_of mk9 hmade
              have kp := hkeep.2.2
              obtain ⟨b10, e10⟩ := hmd (10, 11) (by simp [als9])
              obtain ⟨g10, k10⟩ := hJW.b 10 b10 e10
              have l10 := hal 10 b10 rfl e10
              have ec : (tcol b c) 0 = b.getD c zK := by simp [tcol]
              have ed : dotI (trow a r) (tcol b c) 1 = (vN (timesI (a.getD (4 * r) zK) (b.getD c zK)), (timesI (a.getD (4 * r) zK) (b.getD c zK)).isNone) := by rw [dot1, ec]; rfl
              exact hK _ _ (Met.intro (hJ _ _ ⟨a'.eval (.tmp 10), a'.eval (.tmp 28), a'.eval (.tmp 29), a'.eval (.tmp 30), a'.eval (.tmp 31), a'.eval (.tmp 32), a'.eval (.tmp 33), a'.eval (.tmp 34), a'.eval (.tmp 35), a'.eval (.tmp 36), a'.eval (.tmp 37), a'.eval (.tmp 38), a'.eval (.tmp 39), a'.eval (.tmp 40), ⟨b10, l10, Nat.lt_of_lt_of_le lO g10, by rw [ed]; exact k10, by rw [ed]; exact hT.stepX hJW.X hJW.s⟩, act_ext3 76 _ rfl hkeep.2.1 hkeep.1 (fun t ht => match t, ht with | 0, _ => (kp 0 (by decide)) | 1, _ => (kp 1 (by decide)) | 2, _ => (kp 2 (by decide)) | 3, _ => (kp 3 (by decide)) | 4, _ => (kp 4 (by decide)) | 5, _ => (kp 5 (by decide)) | 6, _ => (kp 6 (by decide)) | 7, _ => (kp 7 (by decide)) | 8, _ => (kp 8 (by decide)) | 9, _ => (kp 9 (by decide)) | 10, _ => rfl | 11, _ => (kp 11 (by decide)) | 12, _ => (kp 12 (by decide)) | 13, _ => (kp 13 (by decide)) | 14, _ => (kp 14 (by decide)) | 15, _ => (kp 15 (by decide)) | 16, _ => (kp 16 (by decide)) | 17, _ => (kp 17 (by decide)) | 18, _ => (kp 18 (by decide)) | 19, _ => (kp 19 (by decide)) | 20, _ => (kp 20 (by decide)) | 21, _ => (kp 21 (by decide)) | 22, _ => (kp 22 (by decide)) | 23, _ => (kp 23 (by decide)) | 24, _ => (kp 24 (by decide)) | 25, _ => (kp 25 (by decide)) | 26, _ => (kp 26 (by decide)) | 27, _ => (kp 27 (by decide)) | 28, _ => rfl | 29, _ => rfl | 30, _ => rfl | 31, _ => rfl | 32, _ => rfl | 33, _ => rfl | 34, _ => rfl | 35, _ => rfl | 36, _ => rfl | 37, _ => rfl | 38, _ => rfl | 39, _ => rfl | 40, _ => rfl | 41, _ => (kp 41 (by decide)) | 42, _ => (kp 42 (by decide)) | 43, _ => (kp 43 (by decide)) | 44, _ => (kp 44 (by decide)) | 45, _ => (kp 45 (by decide)) | 46, _ => (kp 46 (by decide)) | 47, _ => (kp 47 (by decide)) | 48, _ => (kp 48 (by decide)) | 49, _ => (kp 49 (by decide)) | 50, _ => (kp 50 (by decide)) | 51, _ => (kp 51 (by decide)) | 52, _ => (kp 52 (by decide)) | 53, _ => (kp 53 (by decide)) | 54, _ => (kp 54 (by decide)) | 55, _ => (kp 55 (by decide)) | 56, _ => (kp 56 (by decide)) | 57, _ => (kp 57 (by decide)) | 58, _ => (kp 58 (by decide)) | 59, _ => (kp 59 (by decide)) | 60, _ => (kp 60 (by decide)) | 61, _ => (kp 61 (by decide)) | 62, _ => (kp 62 (by decide)) | 63, _ => (kp 63 (by decide)) | 64, _ => (kp 64 (by decide)) | 65, _ => (kp 65 (by decide)) | 66, _ => (kp 66 (by decide)) | 67, _ => (kp 67 (by decide)) | 68, _ => (kp 68 (by decide)) | 69, _ => (kp 69 (by decide)) | 70, _ => (kp 70 (by decide)) | 71, _ => (kp 71 (by decide)) | 72, _ => (kp 72 (by decide)) | 73, _ => (kp 73 (by decide)) | 74, _ => (kp 74 (by decide)) | 75, _ => (kp 75 (by decide)) | n + 76, h => absurd h (by omega))⟩))
            · intro t ht
              simp only [rd9, List.mem_cons, List.not_mem_nil, or_false] at ht
              rcases ht with rfl | rfl | rfl | rfl | rfl | rfl | rfl | rfl <;> rfl
          clear gA gB lA lB lS lO hT
          obtain ⟨fb, qf, hfb, hB, hT⟩ := hcut
          subst qf
          rename World => wd0
          go_wp2
          go_loopw [11] (fun i wr => ∃ k : Nat, 1 ≤ k ∧ k ≤ 4 ∧ i = .int .i64 k ∧ Blk wr fb (frc (dotI (trow a r) (tcol b c) k).1) 25 ∧ TT w w1.heap.size a b (zpad (ttI a b (4 * r + c)).1 (4 * r + c)) ((!ok || (ttI a b (4 * r + c)).2) || (dotI (trow a r) (tcol b c) k).2) wr) (fun i _ => 4 - (intOf i).toNat)
          case atStart => exact ⟨1, by omega, by omega, rfl, hB, hT⟩
          case round =>
            clear hB hT
            rename World => we0
            obtain ⟨k, hk1, hk, rfl, hB, hT⟩ := hrel
            by_cases hk4 : k < 4
            · have hki : (k : Int) < 4 := by omega
              go_upto_region 13 with fail
              have gA := hT.ta.get (i := 4 * r + k) (by omega)
              have gB := hT.tb.get (i := 4 * k + c) (by omega)
              have lA := hT.ta.lt
              have lB := hT.tb.lt
              have lS := hT.s.lt
              have lO := hT.o.lt
              have lF := (Array.getElem?_eq_some_iff.1 hB).1
              refine wp_then_k (fun KK hKK => ?_)
              go_cut [10] from 43 to 61 (fun s10 W => s10 = .pointer (some ⟨fb, 0, none⟩) ∧ Blk W fb (frc (dotI (trow a r) (tcol b c) (k + 1)).1) 25 ∧ TT w w1.heap.size a b (zpad (ttI a b (4 * r + c)).1 (4 * r + c)) ((!ok || (ttI a b (4 * r + c)).2) || (dotI (trow a r) (tcol b c) (k + 1)).2) W)
              case first =>
                rename_i J K' hJ hK
                refine region_sim (als := []) (rd := rd13) (V := v13 w.heap.size (w.heap.size + 1) (w.heap.size + 1 + 1) (w.heap.size + 1 + 1 + 1) w1.heap.size r c fb k a b (dotI (trow a r) (tcol b c) k).1) (J := RKm we0 (w.heap.size + 1 + 1 + 1) fb (badL ((!ok || (ttI a b (4 * r + c)).2) || (dotI (trow a r) (tcol b c) k).2) [(timesI (a.getD (4 * r + k) zK) (b.getD (4 * k + c) zK)).isNone, (addI (dotI (trow a r) (tcol b c) k).1 (vN (timesI (a.getD (4 * r + k) zK) (b.getD (4 * k + c) zK)))).isNone]) (fc13 (dotI (trow a r) (tcol b c) k).1 (vN (addI (dotI (trow a r) (tcol b c) k).1 (vN (timesI (a.getD (4 * r + k) zK) (b.getD (4 * k + c) zK)))))) 25) (base := 43) (L := ops13) mixO (by kernel_rfl) (by intro t h; simp [ixOf] at h) ok13 (reg13 we0 w.heap.size (w.heap.size + 1) (w.heap.size + 1 + 1) (w.heap.size + 1 + 1 + 1) w1.heap.size r c fb k a b (dotI (trow a r) (tcol b c) k).1 ((!ok || (ttI a b (4 * r + c)).2) || (dotI (trow a r) (tcol b c) k).2) hr4 hc4 hk4 lS lF (by omega) gA lA (by omega) (by omega) gB lB (by omega) (by omega)) ?_ (by rw [ln13.1]; simp) ?_ (rk_start hT.s hB)
                · intro mm a' W hJW hmade hsz hkeep hlow hup hal
                  rw [ln13.1, ln13.2] at hJW
                  rw [ln13.1] at hkeep
                  have kp := hkeep.2.2
                  have l10 := hlow 10 (by decide) rfl rfl
                  have hRK : RK we0 (w.heap.size + 1 + 1 + 1) fb _ _ 25 3 W := hJW
                  have ed : dotI (trow a r) (tcol b c) (k + 1) = (vN (addI (dotI (trow a r) (tcol b c) k).1 (vN (timesI (a.getD (4 * r + k) zK) (b.getD (4 * k + c) zK)))), ((dotI (trow a r) (tcol b c) k).2 || (timesI (a.getD (4 * r + k) zK) (b.getD (4 * k + c) zK)).isNone) || (addI (dotI (trow a r) (tcol b c) k).1 (vN (timesI (a.getD (4 * r + k) zK) (b.getD (4 * k + c) zK)))).isNone) := dotS1 (trow a r) (tcol b c) k hk1
                  have hTn := hT.stepK hRK hfb
                  exact hK _ _ (Met.intro (hJ _ _ ⟨a'.eval (.tmp 10), a'.eval (.tmp 43), a'.eval (.tmp 44), a'.eval (.tmp 45), a'.eval (.tmp 46), a'.eval (.tmp 47), a'.eval (.tmp 48), a'.eval (.tmp 49), a'.eval (.tmp 50), a'.eval (.tmp 51), a'.eval (.tmp 52), a'.eval (.tmp 53), a'.eval (.tmp 54), a'.eval (.tmp 55), a'.eval (.tmp 56), a'.eval (.tmp 57), a'.eval (.tmp 58), a'.eval (.tmp 59), a'.eval (.tmp 60), a'.eval (.tmp 61), ⟨l10, by rw [ed]; exact hRK.c, by rw [ed]; simp only [← Bool.or_assoc]; exact hTn⟩, act_ext3 76 _ rfl hkeep.2.1 hkeep.1 (fun t ht => match t, ht with | 0, _ => (kp 0 (by decide)) | 1, _ => (kp 1 (by decide)) | 2, _ => (kp 2 (by decide)) | 3, _ => (kp 3 (by decide)) | 4, _ => (kp 4 (by decide)) | 5, _ => (kp 5 (by decide)) | 6, _ => (kp 6 (by decide)) | 7, _ => (kp 7 (by decide)) | 8, _ => (kp 8 (by decide)) | 9, _ => (kp 9 (by decide)) | 10, _ => rfl | 11, _ => (kp 11 (by decide)) | 12, _ => (kp 12 (by decide)) | 13, _ => (kp 13 (by decide)) | 14, _ => (kp 14 (by decide)) | 15, _ => (kp 15 (by decide)) | 16, _ => (kp 16 (by decide)) | 17, _ => (kp 17 (by decide)) | 18, _ => (kp 18 (by decide)) | 19, _ => (kp 19 (by decide)) | 20, _ => (kp 20 (by decide)) | 21, _ => (kp 21 (by decide)) | 22, _ => (kp 22 (by decide)) | 23, _ => (kp 23 (by decide)) | 24, _ => (kp 24 (by decide)) | 25, _ => (kp 25 (by decide)) | 26, _ => (kp 26 (by decide)) | 27, _ => (kp 27 (by decide)) | 28, _ => (kp 28 (by decide)) | 29, _ => (kp 29 (by decide)) | 30, _ => (kp 30 (by decide)) | 31, _ => (kp 31 (by decide)) | 32, _ => (kp 32 (by decide)) | 33, _ => (kp 33 (by decide)) | 34, _ => (kp 34 (by decide)) | 35, _ => (kp 35 (by decide)) | 36, _ => (kp 36 (by decide)) | 37, _ => (kp 37 (by decide)) | 38, _ => (kp 38 (by decide)) | 39, _ => (kp 39 (by decide)) | 40, _ => (kp 40 (by decide)) | 41, _ => (kp 41 (by decide)) | 42, _ => (kp 42 (by decide)) | 43, _ => rfl | 44, _ => rfl | 45, _ => rfl | 46, _ => rfl | 47, _ => rfl | 48, _ => rfl | 49, _ => rfl | 50, _ => rfl | 51, _ => rfl | 52, _ => rfl | 53, _ => rfl | 54, _ => rfl | 55, _ => rfl | 56, _ => rfl | 57, _ => rfl | 58, _ => rfl | 59, _ => rfl | 60, _ => rfl | 61, _ => rfl | 62, _ => (kp 62 (.inr (.inr ⟨by decide, by kernel_rfl⟩))) | 63, _ => (kp 63 (by decide)) | 64, _ => (kp 64 (by decide)) | 65, _ => (kp 65 (by decide)) | 66, _ => (kp 66 (by decide)) | 67, _ => (kp 67 (by decide)) | 68, _ => (kp 68 (by decide)) | 69, _ => (kp 69 (by decide)) | 70, _ => (kp 70 (by decide)) | 71, _ => (kp 71 (by decide)) | 72, _ => (kp 72 (by decide)) | 73, _ => (kp 73 (by decide)) | 74, _ => (kp 74 (by decide)) | 75, _ => (kp 75 (by decide)) | n + 76, h => absurd h (by omega))⟩))
                · intro t ht
                  simp only [rd13, List.mem_cons, List.not_mem_nil, or_false] at ht
                  rcases ht with rfl | rfl | rfl | rfl | rfl | rfl | rfl | rfl | rfl | rfl <;> rfl
              clear gA gB lA lB lS lO lF hB hT
              obtain ⟨qf, hB, hT⟩ := hcut
              subst qf
              refine hKK _ _ ?_
              go_wp2
              go_roundw
              case rel => exact ⟨k + 1, by omega, by omega, by go_num, hB, hT⟩
              case measure => simp [intOf]; omega
            · obtain rfl : k = 4 := by omega
              have hq1 : IntKind.i64.wrap (4 * (r : Int)) = 4 * (r : Int) := by rw [IntKind.wrap_i64]; omega
              have hn16 : 4 * r + c < 16 := by omega
              have hfat := blk_fat hB
              obtain ⟨f0, f1, f2⟩ := hfat
              have gO := hT.o.get (i := 4 * r + c) (by rw [zpad_len _ _ _ (by omega)]; exact hn16)
              obtain ⟨o0, o1', o2⟩ := gO
              have fO := hT.o.frozen
              go_wp2
              go_roundw
              case rel =>
                refine ⟨c + 1, by omega, by go_num, ?_⟩
                have hp := hT.put (n := 4 * r + c) (by rw [zpad_len _ _ _ (by omega)]; exact hn16) (dotI (trow a r) (tcol b c) 4).1
                have e1 : (4 * r + c) / 4 = r := by omega
                have e2 : (4 * r + c) % 4 = c := by omega
                have hz := zpad_set a b (4 * r + c) hn16
                rw [e1, e2] at hz
                rw [hz] at hp
                have e3 : 4 * r + (c + 1) = 4 * r + c + 1 := by omega
                rw [e3]
                have e4 : (ttI a b (4 * r + c + 1)).2 = ((ttI a b (4 * r + c)).2 || (dotI (trow a r) (tcol b c) 4).2) := by simp only [ttI, e1, e2]
                rw [e4, ← Bool.or_assoc]
                exact hp
              case measure => simp [intOf]; omega
        · obtain rfl : c = 4 := by omega
          go_wp2
          go_roundw
          case rel => exact ⟨r + 1, by omega, by go_num, hT⟩
          case measure => simp [intOf]; omega
    · obtain rfl : r = 4 := by omega
      have HOK := Lib.hid hok
      clear hok
      obtain ⟨XS, hXS⟩ : ∃ x, x = (ttI a b 16).1 := ⟨_, rfl⟩
      have hXl : XS.length = 16 := by rw [hXS]; exact tt_len _ _ _
      have hpad : zpad (ttI a b (4 * 4)).1 (4 * 4) = XS := by rw [hXS]; simp [zpad]
      rw [hpad] at hT
      have HXS := Lib.hid hXS
      clear hXS hpad
      have hOX := hT.o
      unfold TbIs at hOX
      cases hbb : (!ok || (ttI a b 16).2)
      · have hs6 : SumIs wr (w.heap.size + 1 + 1 + 1) false := hbb ▸ hT.s
        have HBB := Lib.hid hbb
        clear hbb
        go_wp2_with (first | (refine wpList_load_row rfl 44 _ rfl w1.heap.size rfl 44 (tbc XS) (0, 0) _ hOX Tryz.underlying44 rfl (szTab XS hXl) ?_) | (go_at_call 49; (with_reducible refine (got_tabT XS (w.heap.size + 1 + 1 + 1) _ hXl hs6).mono ?_); rintro e w7 ⟨rfl, hb7⟩; have hr7 : TbIs w7 (w.heap.size + 1 + 1) zs16 := hT.tr.below hb7 hT.tr.lt; have hB7 : Below w.heap.size w w7 := bstep hT.B hb7 hT.B.size; clear hb7) | (refine wpList_store_row rfl 44 _ _ rfl (w.heap.size + 1 + 1) (tbc XS) rfl rfl 44 (tbc zs16) hr7 (szTab _ hXl) (by rw [tbc_size, tbc_size, hXl]; rfl) (tbc_one _) ?_))
        refine bodyPost_ret (v := tbb (ttimesI a b)) ((results_row_slot Tryz.results64 _ _ (w.heap.size + 1 + 1) 44 (tbc XS) (0, 0) _ rfl (setRow_heap _ _ (tbc zs16) _ _ _ hr7) Tryz.underlying44 rfl (szTab _ hXl)).trans ?_) rfl ⟨rfl, below_setRow hB7 (by omega) _⟩
        unfold ttimesI
        rw [← HOK.out, HBB.out, HXS.out]
        rfl
      · have hs6 : SumIs wr (w.heap.size + 1 + 1 + 1) true := hbb ▸ hT.s
        have HBB := Lib.hid hbb
        clear hbb
        go_wp2_with (first | (refine wpList_load_row rfl 44 _ rfl w1.heap.size rfl 44 (tbc XS) (0, 0) _ hOX Tryz.underlying44 rfl (szTab XS hXl) ?_) | (go_at_call 49; (with_reducible refine (got_tabF XS (w.heap.size + 1 + 1 + 1) _ hXl hs6).mono ?_); rintro e w7 ⟨rfl, hb7⟩; have hr7 : TbIs w7 (w.heap.size + 1 + 1) zs16 := hT.tr.below hb7 hT.tr.lt; have hB7 : Below w.heap.size w w7 := bstep hT.B hb7 hT.B.size; clear hb7) | (refine wpList_store_row rfl 44 _ _ rfl (w.heap.size + 1 + 1) (tbc zs16) rfl rfl 44 (tbc zs16) hr7 (szTab _ rfl) rfl (tbc_one _) ?_))
        refine bodyPost_ret (v := tbb (ttimesI a b)) ((results_row_slot Tryz.results64 _ _ (w.heap.size + 1 + 1) 44 (tbc zs16) (0, 0) _ rfl (setRow_heap _ _ (tbc zs16) _ _ _ hr7) Tryz.underlying44 rfl (szTab _ rfl)).trans ?_) rfl ⟨rfl, below_setRow hB7 (by omega) _⟩
        unfold ttimesI
        rw [← HOK.out, HBB.out, HXS.out]
        rfl
theorem ttimes_any (a b : List Fr) (ha : a.length = 16) (hb : b.length = 16) (w : World) :
    Calls Tryz.prog 64 #[.agg (tbc a), .agg (tbc b)] w fun e w' => e = .returned (tbb (ttimesI a b)) ∧ Below w.heap.size w w' := ttimes_go a b ha hb _ rfl w
end
end Go.Proofs.YtodhbkinbcemnaaGreatDoor
