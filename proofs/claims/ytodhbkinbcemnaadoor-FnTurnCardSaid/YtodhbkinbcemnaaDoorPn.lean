/-
  Texts of this claim, joined: Uq; Uv. Nothing is claimed here; the other texts of this claim use it.
-/
import Derived.Test.YtodhbkinbcemnaaDoorDw
import Derived.Test.YtodhbkinbcemnaaDoorPj
import Derived.IntWalk
import Derived.Test.YtodhbkinbcemnaaDoorSb
import Derived.Test.YtodhbkinbcemnaaDoorPc
namespace Go.Proofs.YtodhbkinbcemnaaDoor
set_option linter.unusedSimpArgs false
set_option linter.unusedVariables false
section
open Go.RowKit
attribute [local go_sem ↓] Go.wp_at_zero Go.wp_at_succ
set_option maxRecDepth 100000 in
set_option maxHeartbeats 2000000 in
theorem dstation_any (br : Nat) (w : World) (hr : RdEx 3 w br) :
    Calls Tryd.prog 35 #[.pointer (some ⟨br, 0, none⟩)] w fun e w' => ∃ s : Sta, e = .returned (stv s) ∧ Drw 3 br w w' ∧ True := by
  obtain ⟨k, hr, hmin, hk⟩ := hr.min
  have hlt := hr.lt
  go_enter Tryd.func35, Tryd.ntmps35
  go_wp2_with (first | (go_at_call 36; (with_reducible refine (pick_any 4 br _ (by exact rd_) (by omega) (by omega)).mono ?_); rintro e w1 ⟨x, rfl, ⟨hu, hx⟩, hbd⟩; have hr1 := hu _ (by exact rd_); clear hu; obtain ⟨hc, hf⟩ := bfxO hx (w.heap.size) (w.heap.size + 1) side_ side_; have hs2 := hx.size; (try simp only [World.size_alloc, World.size_setCell, World.size_drew, World.heap_drewN] at hs2); have hl : w.heap.size ≤ w1.heap.size ∧ w.heap.size < w1.heap.size := ⟨by omega, by omega⟩; have hX : BelX w.heap.size br w w1 := BelX.step (by exact belx_) hx side_; clear hs2 hx) | (go_at_call 36; (with_reducible refine (pick_any 3 br _ (by exact rd_) (by omega) (by omega)).mono ?_); rintro e w1 ⟨y, rfl, ⟨hu, hx⟩, hbd⟩; have hr1 := hu _ (by exact rd_); clear hu; obtain ⟨hc, hf⟩ := bfxO hx (w.heap.size) (w.heap.size + 1) side_ side_; have hs2 := hx.size; (try simp only [World.size_alloc, World.size_setCell, World.size_drew, World.heap_drewN] at hs2); have hl : w.heap.size ≤ w1.heap.size ∧ w.heap.size < w1.heap.size := ⟨by omega, by omega⟩; have hX : BelX w.heap.size br w w1 := BelX.step (by exact belx_) hx side_; clear hs2 hx) | (go_at_call 36; (with_reducible refine (pick_any 2 br _ (by exact rd_) (by omega) (by omega)).mono ?_); rintro e w1 ⟨z, rfl, ⟨hu, hx⟩, hbd⟩; have hr1 := hu _ (by exact rd_); clear hu; obtain ⟨hc, hf⟩ := bfxO hx (w.heap.size) (w.heap.size + 1) side_ side_; have hs2 := hx.size; (try simp only [World.size_alloc, World.size_setCell, World.size_drew, World.heap_drewN] at hs2); have hl : w.heap.size ≤ w1.heap.size ∧ w.heap.size < w1.heap.size := ⟨by omega, by omega⟩; have hX : BelX w.heap.size br w w1 := BelX.step (by exact belx_) hx side_; clear hs2 hx))
  exact bodyPost_ret (v := stv ⟨x, 1 - y + z * 2⟩) (by simp [results, Tryd.results35, go_sem, *]) rfl ⟨⟨x, 1 - y + z * 2⟩, rfl, drw_mk hmin (by exact rd_) (by exact belx_), trivial⟩
end
section
open Go.RowKit
attribute [local go_sem ↓] Go.wp_at_zero Go.wp_at_succ
/-- A new list without elements. -/
theorem OwA.made (w : World) (base : Nat) (hb : base ≤ w.heap.size) : OwA base (.slice (some ⟨w.heap.size, 0, none⟩) 0 0) [] (w.alloc (.cells #[] 37)) :=
  World.ownsRow_made (size := 2) w #[] 0 hb (by unfold maxLen; omega) rfl
/-- A list written out. -/
theorem OwA.lit {W : World} {g base : Nat} {xs : List Sta} (h : W.heap[g]? = some (.cells (rowA xs).toArray 37 (0, 0))) (hb : base ≤ g) (hn : xs.length ≤ 1000) : OwA base (.slice (some ⟨g, 0, none⟩) xs.length xs.length) xs W := by
  refine ⟨rowA_length xs, .inr ⟨g, xs.length, _, rfl, hb, h, Nat.le_refl _, by unfold maxLen; omega, by simp [rowA_length], ?_⟩⟩
  rw [show (rowA xs).toArray.toList = rowA xs by simp, List.take_of_length_le (by rw [rowA_length]; omega)]
/-- One station is put behind a list of the call's own. -/
theorem append_sta {ops : Array Oper} {rest : List Oper} {o : Oper} {a : Act} {Q : Exit → Act → World → Prop} (hgd : o.guard = none) (s x : Operand)
    (ho : o.op = .call { callee := .builtin .append, args := #[s, x], argTypes := #[46, 46] }) (base : Nat) (v : Value) (ys : List Sta) (W : World) (hs : a.eval s = v) (hO : OwA base v ys W) (z : Sta)
    (hx : a.eval x = .slice (some ⟨W.heap.size, 0, none⟩) 1 1) (hlen : ys.length < 4000000) (hb : base ≤ W.heap.size)
    (h : ∀ v' w', OwA base v' (ys ++ [z]) w' → W.grownBy w' v.ownBlock → wpList Tryd.prog ops Q rest (a.put o.dst v') w') :
    wpList Tryd.prog ops Q (o :: rest) a (W.alloc (.cells #[.int .i64 z.p, .int .i64 z.q] 37)) := by
  obtain ⟨i0, hi, hz0, hz1, hz2⟩ := info_parts infoSa
  refine wpList_append_own _ hgd s x 46 ho base 37 i0 (.agg #[.int .i64 0, .int .i64 0]) 2 16 Tryd.underlying46 hi hz0 hz1 hz2 rfl (by decide) v ys.length (rowA ys) hs (hO.alloc _) ⟨W.heap.size, 0, none⟩ 1 1 (staL z) hx rfl ?_ ?_ (by unfold maxLen; omega) (by omega) (by simp; omega) ?_
  · intro j u hj
    rw [add_noneF]
    match j, hj with
    | 0, hj => simp [staL] at hj; subst hj; exact World.cell?_alloc_at _ _ _ _ rfl
    | 1, hj => simp [staL] at hj; subst hj; exact World.cell?_alloc_at _ _ _ _ rfl
    | n + 2, hj => simp [staL] at hj
  · intro u hu
    simp only [staL, List.mem_cons, List.not_mem_nil, or_false] at hu
    rcases hu with rfl | rfl <;> rfl
  · intro v' w' hown hgr _
    refine h v' w' ?_ (grownBy_transF (World.grownBy_alloc _ _ _) hgr)
    unfold OwA
    rw [rowA_append, rowA_one, List.length_append]
    exact hown
/-- What the call made but for its own list stays as it was below. -/
theorem below_ownA {base : Nat} {v : Value} {ys : List Sta} {w0 W w' : World} (hB : Below w0.heap.size w0 W) (hO : OwA base v ys W) (hb : w0.heap.size ≤ base) (hg : W.grownBy w' v.ownBlock) : Below w0.heap.size w0 w' :=
  hB.grown hg hB.size (fun k hk => Nat.le_trans hb (hO.lt k hk).1)
theorem OwA.belX {base br : Nat} {v : Value} {xs : List Sta} {w w' : World} (h : OwA base v xs w) (hb : BelX w.heap.size br w w') (hne : br < base) : OwA base v xs w' := by
  refine ⟨h.1, ?_⟩
  rcases h.2 with hn | ⟨g, cap, cur, rfl, hbg, hg, rest⟩
  · exact .inl hn
  · exact .inr ⟨g, cap, cur, rfl, hbg, (hb.block g (Array.getElem?_eq_some_iff.1 hg).1 (by omega)).trans hg, rest⟩
end
end Go.Proofs.YtodhbkinbcemnaaDoor
