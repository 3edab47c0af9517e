/-
  The drawn region of the reference's TableTimes.
-/
import Derived.Test.YtodhbkinbcemnaaGreatDoorUi
import Derived.Test.YtodhbkinbcemnaaGreatDoorUf
namespace Go.Proofs.YtodhbkinbcemnaaGreatDoor
set_option linter.unusedSimpArgs false
set_option linter.unusedVariables false
open Go.RowKit
/-- A column of a table. -/
def colT (b : List Fr) (c : Nat) : List Fr := [b.getD c zK, b.getD (c + 4) zK, b.getD (c + 8) zK, b.getD (c + 12) zK]
theorem bin_quo4 (x y : Operand) (m : Nat) (h : m < 1000) (w : World) : (eqGuard .quo 3 x y (iv m) (.int .i64 4)).run Tryz.prog w = .ok () w ∧ (binOp .quo 3 (iv m) (.int .i64 4)).run Tryz.prog w = .ok (iv (m / 4)) w := by
  refine ⟨by simp [eqGuard], ?_⟩
  have hw : IntKind.i64.wrap ((m : Int) / 4) = (m : Int) / 4 := by rw [IntKind.wrap_i64]; omega
  simp [go_sem, iv, hw]
theorem of_ok {f : FuncId} {vs : Array Value} {y : Value} {bs : Nat} {w : World} (h : Calls Tryz.prog f vs w fun e w' => e = .returned y ∧ Below w.heap.size w w') (hs : OkEx w bs) :
    Calls Tryz.prog f vs w fun e w' => e = .returned y ∧ (∀ c, OkIs w bs c → OkIs w' bs (c || false)) ∧ BelX w.heap.size bs w w' :=
  h.mono fun e w' ⟨h1, h2⟩ => ⟨h1, fun c hc => by rw [Bool.or_false]; exact hc.below h2 hc.lt, BelX.of h2⟩
theorem y_rowU (rs cs : List Fr) (hr : rs.length = 4) (hc : cs.length = 4) (bs : Nat) (w : World) (hs : OkEx w bs) :
    Calls Tryz.prog 30 #[.pointer (some ⟨bs, 0, none⟩), .agg (tbc rs), .agg (tbc cs)] w fun e w' => e = .returned (frv (dotS (lrow rs) (lrow cs) 4).1) ∧ (∀ c, OkIs w bs c → OkIs w' bs (c || (dotS (lrow rs) (lrow cs) 4).2)) ∧ BelX w.heap.size bs w w' := by
  obtain ⟨b0, hb⟩ := hs
  exact (y_row rs cs hr hc bs b0 w hb).mono fun e w' ⟨h1, h2, h3⟩ => ⟨h1, fun c hc => by rw [← hb.uniq hc]; exact h2, h3⟩
def fcT (x y : List Fr) (k : Nat) : Array Value := if k < 3 then tbc x else tbc y
section
variable {W0 : World} {bs fb : Nat} {bad : Nat → Bool} {fc : Nat → Array Value} {fty : TypeId}
theorem ok_loadT {b : Nat} {cs : Array Value} (hB : Blk W0 b cs 44) (hlt : b < W0.heap.size) (h1 : b ≠ bs) (h2 : b ≠ fb) (hi : ((Tryz.prog).info? 44).map (·.size) = some cs.size) :
    ∀ m k w, OKm W0 bs fb bad fc fty m k w → (Instr.loadAt 44 (.pointer (some ⟨b, 0, none⟩))).run Tryz.prog w = .ok (.agg cs) w := by
  intro m k w h
  simp only [Instr.loadAt, Instr.sureAddr, Sem.run_bind, Sem.run_pure, Result.andThen_ok]
  exact run_loadVar_row w b 44 44 cs (0, 0) _ ((h.block b hlt h1 h2).trans hB) Tryz.underlying44 rfl hi
theorem ok_storeAt {i k : Nat} {xs : List Fr} {v : Fr} (hi : i < xs.length) (hne : fb ≠ bs) (hb : bad (k + 1) = bad k) (h0 : fc k = tbc xs) (h1 : fc (k + 1) = tbc (xs.set i v)) :
    ∀ m w, OKm W0 bs fb bad fc fty m k w → ∃ w', (Instr.storeAt 25 (.pointer (some ⟨fb, i * 3, none⟩)) (frv v)).run Tryz.prog w = .ok () w' ∧ OKm W0 bs fb bad fc fty m (k + 1) w' := by
  intro m w h
  have hC : Blk w fb (tbc xs) fty := by have := h.c; rwa [h0] at this
  obtain ⟨c0, c1, c2⟩ := blk_get hC hi
  have hf := blk_free hC
  have far : ∀ k, k ≠ fb → (((w.setCell ⟨fb, i * 3, none⟩ (.int .i64 v.re)).setCell ⟨fb, i * 3 + 1, none⟩ (.int .i64 v.im)).setCell ⟨fb, i * 3 + 2, none⟩ (.int .i64 v.den)).heap[k]? = w.heap[k]? := fun k hk => (Below.heap_setCell _ _ _ k hk).trans ((Below.heap_setCell _ _ _ k hk).trans (Below.heap_setCell _ _ _ k hk))
  refine ⟨((w.setCell ⟨fb, i * 3, none⟩ (.int .i64 v.re)).setCell ⟨fb, i * 3 + 1, none⟩ (.int .i64 v.im)).setCell ⟨fb, i * 3 + 2, none⟩ (.int .i64 v.den), by simp [go_sem, frv, c0, c1, c2, hf], ?_⟩
  refine ⟨h.os, h.tape, h.output, by simpa using h.size, fun b hb1 hb2 hb3 => (far b hb3).trans (h.block b hb1 hb2 hb3), ?_, ?_⟩
  · rw [hb]; exact (far bs (fun e => hne e.symm)).trans h.s
  · rw [h1]; exact blk_put hC hi v
end
noncomputable def opsU7 : List Oper := (regionAt Tryz.f69 7).toList
def rdU7 : List Nat := [2, 3, 6, 7, 8, 9]
def vU7 (ba bb bs bo i c : Nat) (a b : List Fr) (t : Nat) : Value := if t < 31 then nth [undef, undef, ptv ba, ptv bb, undef, undef, ptv bs, ptv bo, iv i, iv c] t else nth [iv i, ptv bs, .agg (tbc a), iv i, iv (i / 4), .agg (tbc (rowT a (i / 4))), iv c, ptv bb, .pointer (some ⟨bb, c * 3, none⟩), frv (b.getD c zK), iv c, iv (c + 4), ptv bb, .pointer (some ⟨bb, (c + 4) * 3, none⟩), frv (b.getD (c + 4) zK), iv c, iv (c + 8), ptv bb, .pointer (some ⟨bb, (c + 8) * 3, none⟩), frv (b.getD (c + 8) zK), iv c, iv (c + 12), ptv bb, .pointer (some ⟨bb, (c + 12) * 3, none⟩), frv (b.getD (c + 12) zK), .agg (tbc (colT b c)), frv (dotS (lrow (rowT a (i / 4))) (lrow (colT b c)) 4).1, ptv bo, .pointer (some ⟨bo, i * 3, none⟩)] (t - 31)
theorem lnU7 : opsU7.length = 30 ∧ callsTo opsU7 30 = 3 := ⟨by kernel_rfl, by kernel_rfl⟩
theorem okU7 : opsOk opsU7 31 rdU7 [] none 0 opsU7 = true := by kernel_rfl
set_option maxRecDepth 100000 in
set_option maxHeartbeats 8000000 in
theorem regU7 (W0 : World) (ba bb bs bo i c : Nat) (a b xs : List Fr) (bad : Bool) (ha : a.length = 16) (hb : b.length = 16) (hx : xs.length = 16) (hi : i < 16) (hc : c < 4) (hbs : bs < W0.heap.size) (hfb : bo < W0.heap.size) (hne : bo ≠ bs)
    (hA : Blk W0 ba (tbc a) 44) (hla : ba < W0.heap.size) (hna : ba ≠ bs) (hnb : ba ≠ bo) (hB : Blk W0 bb (tbc b) 44) (hlb : bb < W0.heap.size) (hmb : bb ≠ bs) (hmf : bb ≠ bo) :
    Obs [] (vU7 ba bb bs bo i c a b) opsU7 (OKm W0 bs bo (badL bad [false, (dotS (lrow (rowT a (i / 4))) (lrow (colT b c)) 4).2]) (fcT xs (xs.set i (dotS (lrow (rowT a (i / 4))) (lrow (colT b c)) 4).1)) 44) Tryz.prog 31 0 0 opsU7 := by
    refine obs_move (i := 0) rfl rfl rfl rfl ?_
    refine obs_move (i := 1) rfl rfl rfl rfl ?_
    refine obs_load (i := 2) rfl rfl rfl rfl (ok_loadT hA hla hna hnb (szTab a ha)) ?_
    refine obs_move (i := 3) rfl rfl rfl rfl ?_
    refine obs_bin (i := 4) rfl rfl rfl rfl rfl (bin_quo4 _ _ i (by omega)) ?_
    refine obs_call (i := 5) (k := 0) rfl rfl Tryz.func70 rfl rfl rfl rfl (ok_call [.agg (tbc a), iv (i / 4)] (.agg (tbc (rowT a (i / 4)))) hbs hfb hne rfl rfl (fun w h => of_ok (y_of a ha (i / 4) (by omega) w) h)) ?_
    refine obs_move (i := 6) rfl rfl rfl rfl ?_
    refine obs_field (i := 7) rfl rfl rfl rfl (fun w => rfl) ?_
    refine obs_indexT (i := 8) rfl rfl rfl rfl rfl (idx_at bb c (by omega)) ?_
    refine obs_load (i := 9) rfl rfl rfl rfl (ok_loadF (blk_get hB (i := c) (by omega)) hlb hmb hmf) ?_
    refine obs_move (i := 10) rfl rfl rfl rfl ?_
    refine obs_bin (i := 11) rfl rfl rfl rfl rfl (bin_add _ _ c 4 (by omega)) ?_
    refine obs_field (i := 12) rfl rfl rfl rfl (fun w => rfl) ?_
    refine obs_indexT (i := 13) rfl rfl rfl rfl rfl (idx_at bb (c + 4) (by omega)) ?_
    refine obs_load (i := 14) rfl rfl rfl rfl (ok_loadF (blk_get hB (i := c + 4) (by omega)) hlb hmb hmf) ?_
    refine obs_move (i := 15) rfl rfl rfl rfl ?_
    refine obs_bin (i := 16) rfl rfl rfl rfl rfl (bin_add _ _ c 8 (by omega)) ?_
    refine obs_field (i := 17) rfl rfl rfl rfl (fun w => rfl) ?_
    refine obs_indexT (i := 18) rfl rfl rfl rfl rfl (idx_at bb (c + 8) (by omega)) ?_
    refine obs_load (i := 19) rfl rfl rfl rfl (ok_loadF (blk_get hB (i := c + 8) (by omega)) hlb hmb hmf) ?_
    refine obs_move (i := 20) rfl rfl rfl rfl ?_
    refine obs_bin (i := 21) rfl rfl rfl rfl rfl (bin_add _ _ c 12 (by omega)) ?_
    refine obs_field (i := 22) rfl rfl rfl rfl (fun w => rfl) ?_
    refine obs_indexT (i := 23) rfl rfl rfl rfl rfl (idx_at bb (c + 12) (by omega)) ?_
    refine obs_load (i := 24) rfl rfl rfl rfl (ok_loadF (blk_get hB (i := c + 12) (by omega)) hlb hmb hmf) ?_
    refine obs_build (i := 25) rfl rfl rfl rfl (fun w => by kernel_rfl) ?_
    refine obs_call (i := 26) (k := 1) rfl rfl Tryz.func30 rfl rfl rfl rfl (ok_call [ptv bs, .agg (tbc (rowT a (i / 4))), .agg (tbc (colT b c))] (frv (dotS (lrow (rowT a (i / 4))) (lrow (colT b c)) 4).1) hbs hfb hne rfl rfl (fun w h => y_rowU (rowT a (i / 4)) (colT b c) rfl rfl bs w h)) ?_
    refine obs_field (i := 27) rfl rfl rfl rfl (fun w => rfl) ?_
    refine obs_indexT (i := 28) rfl rfl rfl rfl rfl (idx_at bo i (by omega)) ?_
    refine obs_storeF (i := 29) (k := 2) rfl rfl rfl rfl rfl rfl (ok_storeAt (i := i) (xs := xs) (v := (dotS (lrow (rowT a (i / 4))) (lrow (colT b c)) 4).1) (by omega) hne rfl rfl rfl) ?_
    exact obs_nil rfl
end Go.Proofs.YtodhbkinbcemnaaGreatDoor
