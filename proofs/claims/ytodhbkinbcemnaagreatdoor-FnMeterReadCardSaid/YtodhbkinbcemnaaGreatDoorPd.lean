/-
  Texts of this claim, joined: Kb; Kc. Nothing is claimed here; the other texts of this claim use it.
-/
import Derived.Test.YtodhbkinbcemnaaGreatDoorPc
import Derived.Test.YtodhbkinbcemnaaGreatDoorPb
import Derived.Maps.AppendAt
import Derived.Deep.RegionHeld3
import Derived.Deep.CutRange
import Derived.IntWalk
namespace Go.Proofs.YtodhbkinbcemnaaGreatDoor
set_option linter.unusedSimpArgs false
set_option linter.unusedVariables false
section
open Go.RowKit
theorem Frs.belX {A : Option Addr} {len cap bs : Nat} {xs : List Fr} {w w' : World} (h : Frs A len cap xs w) (hb : BelX w.heap.size bs w w') (hne : ∀ b o, A = some ⟨b, o, none⟩ → b ≠ bs) : Frs A len cap xs w' := by
  obtain ⟨h1, h2, h3, h4⟩ := h
  refine ⟨h1, h2, h3, fun h0 => ?_⟩
  obtain ⟨bb, off, e, hbb, hc⟩ := h4 h0
  have hk : ∀ o, w'.cell? ⟨bb, o, none⟩ = w.cell? ⟨bb, o, none⟩ := fun o => World.cell?_of_block (hb.block bb hbb (hne bb off e))
  exact ⟨bb, off, e, Nat.lt_of_lt_of_le hbb hb.size, fun i s hi => ⟨(hk _).trans (hc i s hi).1, (hk _).trans (hc i s hi).2.1, (hk _).trans (hc i s hi).2.2⟩⟩
/-- A list of rows that lies in the world, to be read; none of it in block bs. -/
def RowsAt (bs : Nat) (A : Option Addr) (len cap : Nat) (xss : List (List Fr)) (w : World) : Prop := xss.length = len ∧ len ≤ cap ∧ cap ≤ 9223372036854775807 ∧
  (0 < len → ∃ bb off : Nat, A = some ⟨bb, off, none⟩ ∧ bb < w.heap.size ∧ bb ≠ bs ∧ ∀ i xs, xss[i]? = some xs → ∃ A' c, w.cell? ⟨bb, off + i, none⟩ = some (.slice A' xs.length c) ∧ Frs A' xs.length c xs w ∧ ∀ b o, A' = some ⟨b, o, none⟩ → b ≠ bs)
theorem RowsAt.belX {bs : Nat} {A : Option Addr} {len cap : Nat} {xss : List (List Fr)} {w w' : World} (h : RowsAt bs A len cap xss w) (hb : BelX w.heap.size bs w w') : RowsAt bs A len cap xss w' := by
  obtain ⟨h1, h2, h3, h4⟩ := h
  refine ⟨h1, h2, h3, fun h0 => ?_⟩
  obtain ⟨bb, off, e, hbb, hne, hc⟩ := h4 h0
  refine ⟨bb, off, e, Nat.lt_of_lt_of_le hbb hb.size, hne, fun i xs hi => ?_⟩
  obtain ⟨A', c, k1, k2, k3⟩ := hc i xs hi
  exact ⟨A', c, (World.cell?_of_block (hb.block bb hbb hne)).trans k1, k2.belX hb k3, k3⟩
/-- Row i, to be read. -/
theorem RowsAt.at {bs : Nat} {A : Option Addr} {len cap : Nat} {xss : List (List Fr)} {w : World} (h : RowsAt bs A len cap xss w) {i : Nat} (hi : i < len) :
    ∃ bb off A' c xs, A = some ⟨bb, off, none⟩ ∧ bb < w.heap.size ∧ bb ≠ bs ∧ xss[i]? = some xs ∧ w.cell? ⟨bb, off + i, none⟩ = some (.slice A' xs.length c) ∧ Frs A' xs.length c xs w ∧ ∀ b o, A' = some ⟨b, o, none⟩ → b ≠ bs := by
  obtain ⟨h1, h2, h3, h4⟩ := h
  obtain ⟨bb, off, e, hbb, hne, hc⟩ := h4 (by omega)
  have hx : xss[i]? = some (xss[i]'(by omega)) := List.getElem?_eq_getElem (by omega)
  obtain ⟨A', c, k1, k2, k3⟩ := hc i _ hx
  exact ⟨bb, off, A', c, _, e, hbb, hne, hx, k1, k2, k3⟩
/-- Rows that the call made. -/
structure OwR (base : Nat) (v : Value) (xss : List (List Fr)) (w : World) (hdrs : List Value) : Prop where
  o : w.ownsRow base 31 1 v xss.length hdrs
  r : ∀ (i : Nat) (xs : List Fr), xss[i]? = some xs → ∃ A c, hdrs[i]? = some (Value.slice A xs.length c) ∧ Frs A xs.length c xs w ∧ ∀ b o, A = some ⟨b, o, none⟩ → v.ownBlock ≠ some b ∧ base ≤ b ∧ b < w.heap.size
def OwRs (base : Nat) (v : Value) (xss : List (List Fr)) (w : World) : Prop := ∃ hdrs, OwR base v xss w hdrs
theorem OwRs.below {base B : Nat} {v : Value} {xss : List (List Fr)} {w w' : World} (h : OwRs base v xss w) (hb : Below w.heap.size w w') : OwRs base v xss w' := by
  obtain ⟨hdrs, h⟩ := h
  refine ⟨hdrs, ⟨h.o.1, ?_⟩, fun i xs hi => ?_⟩
  · rcases h.o.2 with hn | ⟨g, cap, cur, rfl, hbg, hg, rest⟩
    · exact .inl hn
    · exact .inr ⟨g, cap, cur, rfl, hbg, (hb.block g (Array.getElem?_eq_some_iff.1 hg).1).trans hg, rest⟩
  · obtain ⟨A, c, k1, k2, k3⟩ := h.r i xs hi
    exact ⟨A, c, k1, k2.below hb, fun b o e => ⟨(k3 b o e).1, (k3 b o e).2.1, Nat.lt_of_lt_of_le (k3 b o e).2.2 hb.size⟩⟩
theorem OwRs.alloc {base : Nat} {v : Value} {xss : List (List Fr)} {w : World} (h : OwRs base v xss w) (o : Obj) : OwRs base v xss (w.alloc o) := h.below (B := 0) ((Below.refl _ _).alloc (Nat.le_refl _) o)
theorem OwRs.drew {base : Nat} {v : Value} {xss : List (List Fr)} {w : World} (h : OwRs base v xss w) : OwRs base v xss w.drew := h.below (B := 0) (Below.refl _ _).drew
theorem OwRs.drewN {base : Nat} {v : Value} {xss : List (List Fr)} {w : World} (h : OwRs base v xss w) (n : Nat) : OwRs base v xss (w.drewN n) := h.below (B := 0) (below_drewN (Below.refl _ _) n)
/-- What was made can be read. -/
theorem OwRs.read {base bs : Nat} {v : Value} {xss : List (List Fr)} {w : World} (h : OwRs base v xss w) (hb : bs < base) : ∃ A cap, v = .slice A xss.length cap ∧ RowsAt bs A xss.length cap xss w := by
  obtain ⟨hdrs, ho, hr⟩ := h
  rcases ho.2 with ⟨rfl, h0⟩ | ⟨g, cap, cur, rfl, hbg, hg, hn, hm, hs, ht⟩
  · exact ⟨none, 0, by rw [h0], rfl, by omega, by omega, fun h => by omega⟩
  · have hlt := (Array.getElem?_eq_some_iff.1 hg).1
    have hc := World.ownsRow.cells ho (g := g) rfl
    refine ⟨some ⟨g, 0, none⟩, cap, rfl, rfl, hn, by unfold maxLen at hm; omega, fun _ => ⟨g, 0, rfl, hlt, by omega, fun i xs hi => ?_⟩⟩
    obtain ⟨A, c, k1, k2, k3⟩ := hr i xs hi
    have := hc i _ k1
    rw [add_noneF] at this
    exact ⟨A, c, by rw [Nat.zero_add]; exact this, k2, fun b o e => by have := (k3 b o e).2.1; omega⟩
theorem OwRs.lt {base : Nat} {v : Value} {xss : List (List Fr)} {w : World} (h : OwRs base v xss w) : ∀ k, v.ownBlock = some k → base ≤ k ∧ k < w.heap.size := by
  obtain ⟨hdrs, ho, -⟩ := h
  exact World.ownsRow.lt ho
/-- Grown elsewhere: the rows stay. -/
theorem OwRs.grown {base : Nat} {v : Value} {xss : List (List Fr)} {w w' : World} {row : Option Nat} (h : OwRs base v xss w) (hg : w.grownBy w' row) (hr : ∀ k, row = some k → w.heap.size ≤ k ∨ k < base) : OwRs base v xss w' := by
  obtain ⟨hdrs, ho, hrr⟩ := h
  have hb : ∀ k, base ≤ k → k < w.heap.size → w'.heap[k]? = w.heap[k]? := fun k h1 h2 => hg.block k h2 (fun e => by rcases hr k e.symm with h | h <;> omega)
  refine ⟨hdrs, ⟨ho.1, ?_⟩, fun i xs hi => ?_⟩
  · rcases ho.2 with hn | ⟨g, cap, cur, rfl, hbg, hgg, rest⟩
    · exact .inl hn
    · exact .inr ⟨g, cap, cur, rfl, hbg, (hb g hbg (Array.getElem?_eq_some_iff.1 hgg).1).trans hgg, rest⟩
  · obtain ⟨A, c, k1, k2, k3⟩ := hrr i xs hi
    exact ⟨A, c, k1, k2.grown hg (fun b o e he => by rcases hr b he with h | h <;> have := k3 b o e <;> omega), fun b o e => ⟨(k3 b o e).1, (k3 b o e).2.1, Nat.lt_of_lt_of_le (k3 b o e).2.2 hg.size⟩⟩
theorem infoSl : (Tryz.prog.info? 31).map (fun i => (i.zero, i.size, i.bytes)) = some (some (.slice none 0 0), 1, 24) := by kernel_rfl
theorem OwRs.made (W : World) (base : Nat) (hb : base ≤ W.heap.size) : OwRs base (.slice (some ⟨W.heap.size, 0, none⟩) 0 0) [] (W.alloc (.cells #[] 31)) := by
  refine ⟨[], ⟨rfl, .inr ⟨W.heap.size, 0, #[], rfl, hb, heap_alloc_new W _, Nat.le_refl _, by unfold maxLen; omega, rfl, rfl⟩⟩, fun i xs hi => by simp at hi⟩
/-- 'append(v, zs...)' onto fractions that the call owns. -/
theorem wp_appF {o : Oper} {a : Act} {K : Act → World → Prop} {Q : Exit → Act → World → Prop} (s x : Operand) (ho : o.op = .call { callee := .builtin .append, args := #[s, x], argTypes := #[31, 31] })
    (base : Nat) (v : Value) (ys : List Fr) (W : World) (hs : a.eval s = v) (hO : OwF base v ys W) (A' : Option Addr) (m c : Nat) (zs : List Fr) (hx : a.eval x = .slice A' m c) (hl : zs.length = m)
    (hA : ∃ bb off : Nat, A' = some ⟨bb, off, none⟩ ∧ ∀ i z, zs[i]? = some z → FAt W bb (off + i * 3) z) (hlen : ys.length + m < 4000000) (hb : base ≤ W.heap.size)
    (h : ∀ v' w', OwF base v' (ys ++ zs) w' → W.grownBy w' v.ownBlock → (v'.ownBlock = v.ownBlock ∨ v'.ownBlock = some W.heap.size) → K (a.put o.dst v') w') : o.wp Tryz.prog a W K Q := by
  obtain ⟨bb, off, rfl, hc⟩ := hA
  obtain ⟨i0, hi, hz0, hz1, hz2⟩ := info_parts infoFr
  have hnews : ∀ j u, (rowF zs)[j]? = some u → W.cell? ((⟨bb, off, none⟩ : Addr).add j) = some u := by
    intro j u hj
    have hjl := (List.getElem?_eq_some_iff.1 hj).1
    rw [rowF_length] at hjl
    have hq : j / 3 < zs.length := by omega
    have hz : zs[j / 3]? = some (zs[j / 3]'hq) := List.getElem?_eq_getElem hq
    have hg := rowF_get zs (j / 3) _ hz (j % 3) (Nat.mod_lt _ (by omega))
    rw [show j / 3 * 3 + j % 3 = j by omega, hj] at hg
    obtain ⟨k0, k1, k2⟩ := hc _ _ hz
    have hadd : (⟨bb, off, none⟩ : Addr).add j = ⟨bb, off + j, none⟩ := by unfold Addr.add; split <;> simp_all
    rw [hadd]
    have h3 : j % 3 = 0 ∨ j % 3 = 1 ∨ j % 3 = 2 := by omega
    rcases h3 with h3 | h3 | h3 <;> rw [h3] at hg <;> simp only [fracL, List.getElem?_cons_zero, List.getElem?_cons_succ] at hg <;> rw [hg]
    · exact (congrArg (fun o => W.cell? ⟨bb, o, none⟩) (by omega)).trans k0
    · exact (congrArg (fun o => W.cell? ⟨bb, o, none⟩) (by omega)).trans k1
    · exact (congrArg (fun o => W.cell? ⟨bb, o, none⟩) (by omega)).trans k2
  obtain ⟨v', w', hr, h2, h3, h4, h5⟩ := run_append_own_at (P := Tryz.prog) W base 31 o.type 25 i0 (.agg #[.int .i64 0, .int .i64 0, .int .i64 0]) 3 24 Tryz.underlying31 hi hz0 hz1 hz2 rfl (by decide) v ys.length (rowF ys) hO ⟨bb, off, none⟩ m c (rowF zs) (by rw [rowF_length, hl]) hnews (rowF_one' zs) (by unfold maxLen; omega) (by omega) hb
  unfold Oper.wp execOp
  simp only [ho, resolve, invoke, builtin, Sem.run_bind, Sem.run_pure, Result.andThen_ok, List.map_toArray, List.map_cons, List.map_nil, hs, hx, hr]
  refine h v' w' ?_ h3 h5
  unfold OwF
  rw [rowF_append, List.length_append, hl]
  exact h2
/-- 'append(v, row)' onto rows that the call owns. -/
theorem wp_appR {o : Oper} {a : Act} {K : Act → World → Prop} {Q : Exit → Act → World → Prop} (s x : Operand) (ho : o.op = .call { callee := .builtin .append, args := #[s, x], argTypes := #[88, 88] })
    (base : Nat) (v : Value) (yss : List (List Fr)) (W : World) (hs : a.eval s = v) (hO : OwRs base v yss W) (gb c : Nat) (hx : a.eval x = .slice (some ⟨gb, 0, none⟩) 1 c)
    (rb : Nat) (rv : Value) (zs : List Fr) (hz : OwF rb rv zs W) (hzn : ∀ k, v.ownBlock = some k → k < rb) (hrb : base ≤ rb) (hcell : W.cell? ⟨gb, 0, none⟩ = some rv) (hlen : yss.length + 1 < 4000000) (hb : base ≤ W.heap.size)
    (h : ∀ v' w', OwRs base v' (yss ++ [zs]) w' → W.grownBy w' v.ownBlock → K (a.put o.dst v') w') : o.wp Tryz.prog a W K Q := by
  obtain ⟨i0, hi, hz0, hz1, hz2⟩ := info_parts infoSl
  obtain ⟨hdrs, hO, hr⟩ := hO
  have hnews : ∀ j u, [rv][j]? = some u → W.cell? ((⟨gb, 0, none⟩ : Addr).add j) = some u := by
    intro j u hj
    match j, hj with
    | 0, hj =>
      simp at hj
      subst hj
      rw [add_noneF]
      exact hcell
  obtain ⟨Az, cz, rfl, hzF⟩ := hz.frs
  obtain ⟨v', w', hrun, h2, h3, h4, h5⟩ := run_append_own_at (P := Tryz.prog) W base 88 o.type 31 i0 (.slice none 0 0) 1 24 Tryz.underlying88 hi hz0 hz1 hz2 rfl (by decide) v yss.length hdrs hO ⟨gb, 0, none⟩ 1 c [_] rfl hnews (fun u hu => by simp at hu; subst hu; rfl) (by unfold maxLen; omega) (by omega) hb
  have hlt := World.ownsRow.lt hO
  unfold Oper.wp execOp
  simp only [ho, resolve, invoke, builtin, Sem.run_bind, Sem.run_pure, Result.andThen_ok, List.map_toArray, List.map_cons, List.map_nil, hs, hx, hrun]
  have hdl : hdrs.length = yss.length := by have := hO.1; simpa using this
  refine h v' w' ⟨hdrs ++ [.slice Az zs.length cz], by rw [List.length_append]; exact h2, fun i xs hxi => ?_⟩ h3
  have hnew : ∀ b, b < W.heap.size → v.ownBlock ≠ some b → v'.ownBlock ≠ some b := by
    intro b hbl hne he
    rcases h5 with h5 | h5
    · exact hne (h5 ▸ he)
    · rw [h5] at he
      have := Option.some.inj he
      omega
  rcases Nat.lt_or_ge i yss.length with hil | hil
  · rw [List.getElem?_append_left hil] at hxi
    obtain ⟨A, c', k1, k2, k3⟩ := hr i xs hxi
    refine ⟨A, c', by rw [List.getElem?_append_left (by omega)]; exact k1, k2.grown h3 (fun b o e he => (k3 b o e).1 he), fun b o e => ⟨hnew b (k3 b o e).2.2 (k3 b o e).1, (k3 b o e).2.1, Nat.lt_of_lt_of_le (k3 b o e).2.2 h3.size⟩⟩
  · have hi1 := (List.getElem?_eq_some_iff.1 hxi).1
    rw [List.length_append] at hi1
    simp only [List.length_cons, List.length_nil] at hi1
    obtain rfl : i = yss.length := by omega
    rw [List.getElem?_append_right (Nat.le_refl _), Nat.sub_self] at hxi
    obtain rfl : zs = xs := by simpa using hxi
    have hzl := hz.lt
    have hzb : ∀ b o, Az = some ⟨b, o, none⟩ → v.ownBlock ≠ some b ∧ rb ≤ b ∧ b < W.heap.size := by
      intro b o e
      subst e
      have h6 := hzl b rfl
      exact ⟨fun he => by have := hzn b he; omega, h6⟩
    refine ⟨Az, cz, by rw [List.getElem?_append_right (by omega), hdl, Nat.sub_self]; rfl, hzF.grown h3 (fun b o e he => (hzb b o e).1 he), fun b o e => ⟨hnew b (hzb b o e).2.2 (hzb b o e).1, by have := (hzb b o e).2.1; omega, Nat.lt_of_lt_of_le (hzb b o e).2.2 h3.size⟩⟩
/-- A law at an operation serves at a step of a region that draws its order. -/
theorem step_of {P : Program} {ops : Array Oper} {o : Oper} {a : Act} {W : World} {K : Act → World → Prop} {Q : Exit → Act → World → Prop} {E : Prop} (hgd : o.guard = none) (h : o.wp P a W K Q) :
    if Region.wanted o (yielded ops a.tmps) = true then Oper.wp P o a W K Q else E := by
  have hw : Region.wanted o (yielded ops a.tmps) = true := by simp [Region.wanted, hgd]
  rw [if_pos hw]
  exact h
end
section
open Go.RowKit
attribute [local go_sem ↓] Go.wp_at_zero Go.wp_at_succ
/-- Rows of so many fractions each. -/
def Shape (n : Nat) (rows : List (List Fr)) : Prop := rows.length = n + 1 ∧ ∀ r ∈ rows, r.length = n + 1
theorem Shape.minor {n k : Nat} {rows : List (List Fr)} (h : Shape (n + 1) rows) (hk : k < n + 2) : Shape n (minorK k rows) := by
  refine ⟨by rw [minorK, List.length_map, List.length_tail, h.1]; omega, fun r hr => ?_⟩
  obtain ⟨r0, hr0, rfl⟩ := List.mem_map.1 hr
  have hl := h.2 r0 (List.mem_of_mem_tail hr0)
  rw [cutK, List.length_append, List.length_take, List.length_drop, hl]
  omega
theorem minor_next {k j : Nat} {rows : List (List Fr)} {r : List Fr} (h : rows[j + 1]? = some r) : (rows.tail.take (j + 1)).map (cutK k) = (rows.tail.take j).map (cutK k) ++ [cutK k r] := by
  rw [List.take_add_one, List.map_append]
  have : rows.tail[j]? = some r := by rw [List.getElem?_tail]; exact h
  rw [this]
  rfl
/-- What the call's own memory holds. -/
structure TK (w : World) (bs : Nat) (bad : Bool) (acc : Fr) (W : World) : Prop where
  r : FrG W w.heap.size ⟨0, 0, 0⟩
  a : FrG W (w.heap.size + 1) acc
  s : SumIs W bs bad
  X : BelX w.heap.size bs w W
section
variable {w W w1 : World} {bs : Nat} {bad : Bool} {acc : Fr}
theorem TK.below (h : TK w bs bad acc W) (hb : Below W.heap.size W w1) : TK w bs bad acc w1 := ⟨h.r.below hb, h.a.below hb, h.s.below hb h.s.lt, h.X.stepB hb h.X.size⟩
theorem TK.alloc (h : TK w bs bad acc W) (o : Obj) : TK w bs bad acc (W.alloc o) := h.below ((Below.refl _ _).alloc (Nat.le_refl _) o)
theorem TK.drew (h : TK w bs bad acc W) : TK w bs bad acc W.drew := ⟨h.r.drew, h.a.drew, h.s.drew, h.X.drew⟩
theorem TK.drewN (h : TK w bs bad acc W) (n : Nat) : TK w bs bad acc (W.drewN n) := ⟨h.r.drewN n, h.a.drewN n, h.s.drewN n, h.X.drewN n⟩
theorem TK.belX (h : TK w bs bad acc W) (hlt : bs < w.heap.size) (hb : BelX W.heap.size bs W w1) {c : Bool} (hs : SumIs w1 bs c) : TK w bs c acc w1 :=
  ⟨h.r.step hb h.r.lt (by omega), h.a.step hb h.a.lt (by omega), hs, BelX.step h.X hb h.X.size⟩
theorem TK.far (h : TK w bs bad acc W) (hlt : bs < w.heap.size) {p : Addr} (hp : w.heap.size + 1 < p.block) (u : Value) : TK w bs bad acc (W.setCell p u) :=
  ⟨h.r.far (by omega) u, h.a.far (by omega) u, h.s.far (by omega) u, h.X.setCell (by omega) u⟩
theorem TK.put (h : TK w bs bad acc W) (hlt : bs < w.heap.size) (y : Fr) : TK w bs bad y (((W.setCell ⟨w.heap.size + 1, 0, none⟩ (.int .i64 y.re)).setCell ⟨w.heap.size + 1, 1, none⟩ (.int .i64 y.im)).setCell ⟨w.heap.size + 1, 2, none⟩ (.int .i64 y.den)) :=
  ⟨((h.r.far (by simp) _).far (by simp) _).far (by simp) _, h.a.put y, ((h.s.far (by simp; omega) _).far (by simp; omega) _).far (by simp; omega) _, ((h.X.setCell (by simp) _).setCell (by simp) _).setCell (by simp) _⟩
end
/-- What the determinant of n + 1 rows does. -/
def DetC (n : Nat) : Prop := ∀ (A : Option Addr) (cap bs : Nat) (rows : List (List Fr)) (w : World), Shape n rows → RowsAt bs A (n + 1) cap rows w → SumEx w bs →
  Calls Tryz.prog 87 #[.pointer (some ⟨bs, 0, none⟩), .slice A (n + 1) cap] w fun e w' => e = .returned (frv (detI n rows).1) ∧ (∀ c, SumIs w bs c → SumIs w' bs (c || (detI n rows).2)) ∧ BelX w.heap.size bs w w'
set_option maxRecDepth 100000 in
set_option maxHeartbeats 8000000 in
theorem det_zero : DetC 0 := by
  intro A cap bs rows w hsh hR hS
  obtain ⟨b1, o1, A1, c1, r, rfl, hb1, hne1, hr, hcell, hF, -⟩ := hR.at (i := 0) (by omega)
  have hrl : r.length = 1 := hsh.2 r (List.mem_of_getElem? hr)
  rw [hrl] at hcell hF
  obtain ⟨b2, o2, f, rfl, hb2, hf, hat⟩ := hF.at (Below.refl _ _) (k := 0) (by omega)
  have he : (detI 0 rows) = (f, false) := by
    show (entryK rows 0, false) = _
    have h1 : rows.headD [] = r := by cases rows <;> simp at hr ⊢; exact hr
    rw [entryK, h1, List.getD, hf]
    rfl
  rw [he]
  rw [Nat.zero_mul, Nat.add_zero] at hat
  rw [Nat.add_zero] at hcell
  obtain ⟨c0, c1', c2⟩ := hat
  have HS := Lib.hid hS
  clear hr hf he hR hsh hF hS hrl
  go_enter Tryz.func87, Tryz.ntmps87
  go_wp2
  exact bodyPost_ret (v := frv f) (by simp [results, Tryz.results87, go_sem, *]) rfl ⟨rfl, fun c hc => by rw [Bool.or_false]; exact sum_, by exact belx_⟩
end
end Go.Proofs.YtodhbkinbcemnaaGreatDoor
