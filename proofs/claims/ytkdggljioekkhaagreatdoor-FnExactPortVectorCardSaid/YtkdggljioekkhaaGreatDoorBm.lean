/-
  Lists of words, of whole numbers and of pieces in memory; what append makes of them.
-/
import Derived.Test.YtkdggljioekkhaaGreatDoorBb
import Derived.Test.YtkdggljioekkhaaGreatDoorPa
import Derived.Maps.AppendAt
import Derived.OwnWalk
import Derived.Deep.WholeRow
namespace Go.Proofs.YtkdggljioekkhaaGreatDoor
set_option linter.unusedSimpArgs false
set_option linter.unusedVariables false
open Go.RowKit
theorem add_none0 (g j : Nat) : (⟨g, 0, none⟩ : Addr).add j = ⟨g, j, none⟩ := by unfold Addr.add; split <;> simp_all
theorem info_parts0 {P : Program} {t : TypeId} {z : Value} {a b : Nat} (h : (P.info? t).map (fun i => (i.zero, i.size, i.bytes)) = some (some z, a, b)) : ∃ i0, P.info? t = some i0 ∧ i0.zero = some z ∧ i0.size = a ∧ i0.bytes = b := by
  cases hi : P.info? t with
  | none => rw [hi] at h; cases h
  | some i0 =>
    rw [hi] at h
    simp only [Option.map_some, Option.some.injEq, Prod.mk.injEq] at h
    exact ⟨i0, rfl, h.1, h.2.1, h.2.2⟩
/-- 'append(v, x)' onto a list of the call's own: one element more. -/
theorem wp_app1 {P : Program} {o : Oper} {a : Act} {K : Act → World → Prop} {Q : Exit → Act → World → Prop} (ts te : TypeId) (z : Value) (sz by' : Nat) (hT : P.underlying ts = some (.slice te))
    (hinfo : (P.info? te).map (fun i => (i.zero, i.size, i.bytes)) = some (some z, sz, by')) (hzc : z.cells.size = sz) (hsz : 0 < sz)
    (s x : Operand) (ho : o.op = .call { callee := .builtin .append, args := #[s, x], argTypes := #[ts, ts] })
    (base : Nat) (v : Value) (n : Nat) (hdrs : List Value) (W : World) (hs : a.eval s = v) (hO : W.ownsRow base te sz v n hdrs) (gb c : Nat) (hx : a.eval x = .slice (some ⟨gb, 0, none⟩) 1 c) (news : List Value) (hl : news.length = sz)
    (hnews : ∀ j u, news[j]? = some u → W.cell? ⟨gb, j, none⟩ = some u) (h1 : ∀ u ∈ news, u.oneCell' = true) (hlen : n + 1 < 4000000) (hby : by' ≤ 64) (hb : base ≤ W.heap.size)
    (h : ∀ v' w', w'.ownsRow base te sz v' (n + 1) (hdrs ++ news) → W.grownBy w' v.ownBlock → (v'.ownBlock = v.ownBlock ∨ v'.ownBlock = some W.heap.size) → K (a.put o.dst v') w') : o.wp P a W K Q := by
  obtain ⟨i0, hi, hz0, hz1, hz2⟩ := info_parts0 hinfo
  obtain ⟨v', w', hr, h2, h3, h4, h5⟩ := run_append_own_at (P := P) W base ts o.type te i0 z sz by' hT hi hz0 hz1 hz2 hzc hsz v n hdrs hO ⟨gb, 0, none⟩ 1 c news (by omega) (fun j u hj => by rw [add_none0]; exact hnews j u hj) h1 (by unfold maxLen; omega)
    (by have := Nat.mul_le_mul (show n + 1 ≤ 4000000 by omega) hby; omega) hb
  unfold Oper.wp execOp
  simp only [ho, resolve, invoke, builtin, Sem.run_bind, Sem.run_pure, Result.andThen_ok, List.map_toArray, List.map_cons, List.map_nil, hs, hx, hr]
  exact h v' w' h2 h3 h5
/-- Whole numbers of the call's own. -/
def OwI (base : Nat) (v : Value) (ns : List Int) (w : World) : Prop := w.ownsRow base 3 1 v ns.length (ns.map fun n => Value.int .i64 n)
theorem OwI.grown {base : Nat} {v : Value} {ns : List Int} {w w' : World} {row : Option Nat} (h : OwI base v ns w) (hg : w.grownBy w' row) (hne : v.ownBlock = none ∨ v.ownBlock ≠ row) : OwI base v ns w' := World.ownsRow.kept h hg hne
theorem OwI.below {base : Nat} {v : Value} {ns : List Int} {w w' : World} (h : OwI base v ns w) (hb : Below w.heap.size w w') : OwI base v ns w' := by
  refine ⟨h.1, ?_⟩
  rcases h.2 with hn | ⟨g, cap, cur, rfl, hbg, hg, rest⟩
  · exact .inl hn
  · exact .inr ⟨g, cap, cur, rfl, hbg, (hb.block g (Array.getElem?_eq_some_iff.1 hg).1).trans hg, rest⟩
theorem OwI.mono {base base' : Nat} {v : Value} {ns : List Int} {w : World} (h : OwI base v ns w) (hb : base' ≤ base) : OwI base' v ns w := by
  refine ⟨h.1, ?_⟩
  rcases h.2 with hn | ⟨g, cap, cur, rfl, hbg, rest⟩
  · exact .inl hn
  · exact .inr ⟨g, cap, cur, rfl, by omega, rest⟩
theorem OwI.far {base : Nat} {v : Value} {ns : List Int} {w : World} (h : OwI base v ns w) {p : Addr} (hp : ∀ k, v.ownBlock = some k → k ≠ p.block) (u : Value) : OwI base v ns (w.setCell p u) := by
  refine ⟨h.1, ?_⟩
  rcases h.2 with hn | ⟨g, cap, cur, rfl, hbg, hg, rest⟩
  · exact .inl hn
  · exact .inr ⟨g, cap, cur, rfl, hbg, (Below.heap_setCell w p u g (hp g rfl)).trans hg, rest⟩
theorem OwI.lt {base : Nat} {v : Value} {ns : List Int} {w : World} (h : OwI base v ns w) : ∀ k, v.ownBlock = some k → base ≤ k ∧ k < w.heap.size := World.ownsRow.lt h
theorem OwI.slice {base : Nat} {v : Value} {ns : List Int} {w : World} (h : OwI base v ns w) : ∃ A cap, v = .slice A ns.length cap := by
  rcases h.2 with ⟨rfl, h0⟩ | ⟨g, cap, cur, rfl, rest⟩
  · exact ⟨none, 0, by rw [h0]⟩
  · exact ⟨_, cap, rfl⟩
/-- Where the numbers lie. -/
theorem OwI.at {base : Nat} {v : Value} {ns : List Int} {w : World} (h : OwI base v ns w) (h0 : 0 < ns.length) : ∃ g cap, v = .slice (some ⟨g, 0, none⟩) ns.length cap ∧ ns.length ≤ cap ∧ cap ≤ 9223372036854775807 ∧ base ≤ g ∧ g < w.heap.size ∧ ∀ j n, ns[j]? = some n → w.cell? ⟨g, j, none⟩ = some (.int .i64 n) := by
  rcases h.2 with ⟨rfl, hz⟩ | ⟨g, cap, cur, rfl, hbg, hg, hn, hm, hs, ht⟩
  · omega
  · have hc := World.ownsRow.cells h (g := g) rfl
    refine ⟨g, cap, rfl, hn, by unfold maxLen at hm; omega, hbg, (Array.getElem?_eq_some_iff.1 hg).1, fun j n hj => ?_⟩
    have := hc j (.int .i64 n) (by rw [List.getElem?_map, hj]; rfl)
    rwa [add_none0] at this
theorem OwI.nil (base : Nat) (w : World) : OwI base (.slice none 0 0) [] w := World.ownsRow_nil _ _ _ _
theorem OwI.made (w : World) (base : Nat) (hb : base ≤ w.heap.size) : OwI base (.slice (some ⟨w.heap.size, 0, none⟩) 0 0) [] (w.alloc (.cells #[] 3)) :=
  ⟨rfl, .inr ⟨w.heap.size, 0, #[], rfl, hb, heap_alloc_new w _, Nat.le_refl _, by unfold maxLen; omega, rfl, rfl⟩⟩
theorem infoI : (Tryz.prog.info? 3).map (fun i => (i.zero, i.size, i.bytes)) = some (some (.int .i64 0), 1, 8) := by kernel_rfl
/-- 'append(v, n)'. -/
theorem wpList_appI {ops : Array Oper} {rest : List Oper} {o : Oper} {a : Act} {Q : Exit → Act → World → Prop} (hgd : o.guard = none) (s x : Operand) (ho : o.op = .call { callee := .builtin .append, args := #[s, x], argTypes := #[88, 88] })
    (base : Nat) (v : Value) (ns : List Int) (W : World) (hs : a.eval s = v) (hO : OwI base v ns W) (gb c : Nat) (n : Int) (hx : a.eval x = .slice (some ⟨gb, 0, none⟩) 1 c) (hc : W.cell? ⟨gb, 0, none⟩ = some (.int .i64 n)) (hlen : ns.length + 1 < 4000000) (hb : base ≤ W.heap.size)
    (h : ∀ v' w', OwI base v' (ns ++ [n]) w' → W.grownBy w' v.ownBlock → wpList Tryz.prog ops Q rest (a.put o.dst v') w') : wpList Tryz.prog ops Q (o :: rest) a W :=
  wpList_plain hgd fun _ hK => wp_app1 88 3 _ 1 8 Tryz.underlying88 infoI rfl (by decide) s x ho base v ns.length _ W hs hO gb c hx [.int .i64 n] rfl
    (fun j u hj => by
      match j, hj with
      | 0, hj => simp at hj; subst hj; exact hc) (fun u hu => by simp only [List.mem_singleton] at hu; subst hu; rfl) hlen (by decide) hb
    fun v' w' h2 h3 _ => hK _ _ (h v' w' (by unfold OwI; rw [List.length_append, List.map_append]; exact h2) h3)
/-- Words of the call's own. -/
def OwT (base : Nat) (v : Value) (ts : List (List UInt8)) (w : World) : Prop := w.ownsRow base 9 1 v ts.length (ts.map fun l => Value.string ⟨l.toArray⟩)
theorem OwT.grown {base : Nat} {v : Value} {ts : List (List UInt8)} {w w' : World} {row : Option Nat} (h : OwT base v ts w) (hg : w.grownBy w' row) (hne : v.ownBlock = none ∨ v.ownBlock ≠ row) : OwT base v ts w' := World.ownsRow.kept h hg hne
theorem OwT.below {base : Nat} {v : Value} {ts : List (List UInt8)} {w w' : World} (h : OwT base v ts w) (hb : Below w.heap.size w w') : OwT base v ts w' := by
  refine ⟨h.1, ?_⟩
  rcases h.2 with hn | ⟨g, cap, cur, rfl, hbg, hg, rest⟩
  · exact .inl hn
  · exact .inr ⟨g, cap, cur, rfl, hbg, (hb.block g (Array.getElem?_eq_some_iff.1 hg).1).trans hg, rest⟩
theorem OwT.lt {base : Nat} {v : Value} {ts : List (List UInt8)} {w : World} (h : OwT base v ts w) : ∀ k, v.ownBlock = some k → base ≤ k ∧ k < w.heap.size := World.ownsRow.lt h
theorem OwT.at {base : Nat} {v : Value} {ts : List (List UInt8)} {w : World} (h : OwT base v ts w) (h0 : 0 < ts.length) : ∃ g cap, v = .slice (some ⟨g, 0, none⟩) ts.length cap ∧ ts.length ≤ cap ∧ cap ≤ 9223372036854775807 ∧ base ≤ g ∧ g < w.heap.size ∧ ∀ j l, ts[j]? = some l → w.cell? ⟨g, j, none⟩ = some (.string ⟨l.toArray⟩) := by
  rcases h.2 with ⟨rfl, hz⟩ | ⟨g, cap, cur, rfl, hbg, hg, hn, hm, hs, ht⟩
  · omega
  · have hc := World.ownsRow.cells h (g := g) rfl
    refine ⟨g, cap, rfl, hn, by unfold maxLen at hm; omega, hbg, (Array.getElem?_eq_some_iff.1 hg).1, fun j l hj => ?_⟩
    have := hc j (.string ⟨l.toArray⟩) (by rw [List.getElem?_map, hj]; rfl)
    rwa [add_none0] at this
theorem OwT.made (w : World) (base : Nat) (hb : base ≤ w.heap.size) : OwT base (.slice (some ⟨w.heap.size, 0, none⟩) 0 0) [] (w.alloc (.cells #[] 9)) :=
  ⟨rfl, .inr ⟨w.heap.size, 0, #[], rfl, hb, heap_alloc_new w _, Nat.le_refl _, by unfold maxLen; omega, rfl, rfl⟩⟩
theorem infoT : (Tryz.prog.info? 9).map (fun i => (i.zero, i.size, i.bytes)) = some (some (.string ByteArray.empty), 1, 16) := by kernel_rfl
/-- 'append(v, word)'. -/
theorem wpList_appT {ops : Array Oper} {rest : List Oper} {o : Oper} {a : Act} {Q : Exit → Act → World → Prop} (hgd : o.guard = none) (s x : Operand) (ho : o.op = .call { callee := .builtin .append, args := #[s, x], argTypes := #[101, 101] })
    (base : Nat) (v : Value) (ts : List (List UInt8)) (W : World) (hs : a.eval s = v) (hO : OwT base v ts W) (gb c : Nat) (l : List UInt8) (b : ByteArray) (hx : a.eval x = .slice (some ⟨gb, 0, none⟩) 1 c) (hc : W.cell? ⟨gb, 0, none⟩ = some (.string b)) (hbl : b = ⟨l.toArray⟩) (hlen : ts.length + 1 < 4000000) (hb : base ≤ W.heap.size)
    (h : ∀ v' w', OwT base v' (ts ++ [l]) w' → W.grownBy w' v.ownBlock → wpList Tryz.prog ops Q rest (a.put o.dst v') w') : wpList Tryz.prog ops Q (o :: rest) a W :=
  wpList_plain hgd fun _ hK => wp_app1 101 9 _ 1 16 Tryz.underlying101 infoT rfl (by decide) s x ho base v ts.length _ W hs hO gb c hx [.string b] rfl
    (fun j u hj => by
      match j, hj with
      | 0, hj => simp at hj; subst hj; exact hc) (fun u hu => by simp only [List.mem_singleton] at hu; subst hu; rfl) hlen (by decide) hb
    fun v' w' h2 h3 _ => hK _ _ (h v' w' (by subst hbl; unfold OwT; rw [List.length_append, List.map_append]; exact h2) h3)
/-- A piece's numbers, to be read. -/
def NumsAt (w : World) (v : Value) (ns : List Int) : Prop := ∃ g cap, v = .slice (some ⟨g, 0, none⟩) ns.length cap ∧ ns.length ≤ cap ∧ cap ≤ 9223372036854775807 ∧ g < w.heap.size ∧ ∀ j n, ns[j]? = some n → w.cell? ⟨g, j, none⟩ = some (.int .i64 n)
theorem NumsAt.below {w w' : World} {v : Value} {ns : List Int} (h : NumsAt w v ns) (hb : Below w.heap.size w w') : NumsAt w' v ns := by
  obtain ⟨g, cap, h1, h2, h3, h4, h5⟩ := h
  exact ⟨g, cap, h1, h2, h3, Nat.lt_of_lt_of_le h4 hb.size, fun j n hj => (hb.cell (p := ⟨g, j, none⟩) h4).trans (h5 j n hj)⟩
theorem NumsAt.grown {w w' : World} {v : Value} {ns : List Int} {row : Option Nat} (h : NumsAt w v ns) (hg : w.grownBy w' row) (hne : ∀ k, v.ownBlock = some k → row ≠ some k) : NumsAt w' v ns := by
  obtain ⟨g, cap, rfl, h2, h3, h4, h5⟩ := h
  refine ⟨g, cap, rfl, h2, h3, Nat.lt_of_lt_of_le h4 hg.size, fun j n hj => ?_⟩
  rw [World.cell?_of_block (hg.block g h4 (fun e => hne g rfl e.symm))]
  exact h5 j n hj
theorem NumsAt.of {base : Nat} {v : Value} {ns : List Int} {w : World} (h : OwI base v ns w) (h0 : 0 < ns.length) : NumsAt w v ns := by
  obtain ⟨g, cap, h1, h2, h3, h4, h5, h6⟩ := h.at h0
  exact ⟨g, cap, h1, h2, h3, h5, h6⟩
theorem NumsAt.blk {w : World} {v : Value} {ns : List Int} (h : NumsAt w v ns) : ∀ k, v.ownBlock = some k → k < w.heap.size := by
  obtain ⟨g, cap, rfl, h2, h3, h4, h5⟩ := h
  intro k hk
  obtain rfl : g = k := Option.some.inj hk
  exact h4
/-- Pieces of the call's own: each with its letter and its numbers; sz cells each. -/
structure OwPc (ty : TypeId) (sz base : Nat) (v : Value) (ps : List Pc) (w : World) (hdrs : List Value) : Prop where
  o : w.ownsRow base ty sz v ps.length hdrs
  r : ∀ (i : Nat) (x : Pc), ps[i]? = some x → ∃ nv, hdrs[i * sz]? = some (.int .u8 x.k.toNat) ∧ hdrs[i * sz + 1]? = some nv ∧ NumsAt w nv x.ns ∧ (∀ k, nv.ownBlock = some k → v.ownBlock ≠ some k ∧ base ≤ k) ∧ ∀ j, 2 ≤ j → j < sz → ∃ b, hdrs[i * sz + j]? = some (Value.string b)
def Pcs (ty : TypeId) (sz base : Nat) (v : Value) (ps : List Pc) (w : World) : Prop := ∃ hdrs, OwPc ty sz base v ps w hdrs
theorem Pcs.below {ty : TypeId} {sz base : Nat} {v : Value} {ps : List Pc} {w w' : World} (h : Pcs ty sz base v ps w) (hb : Below w.heap.size w w') : Pcs ty sz base v ps w' := by
  obtain ⟨hdrs, h⟩ := h
  refine ⟨hdrs, ⟨h.o.1, ?_⟩, fun i x hi => ?_⟩
  · rcases h.o.2 with hn | ⟨g, cap, cur, rfl, hbg, hg, rest⟩
    · exact .inl hn
    · exact .inr ⟨g, cap, cur, rfl, hbg, (hb.block g (Array.getElem?_eq_some_iff.1 hg).1).trans hg, rest⟩
  · obtain ⟨nv, k1, k2, k3, k4⟩ := h.r i x hi
    exact ⟨nv, k1, k2, k3.below hb, k4⟩
theorem Pcs.lt {ty : TypeId} {sz base : Nat} {v : Value} {ps : List Pc} {w : World} (h : Pcs ty sz base v ps w) : ∀ k, v.ownBlock = some k → base ≤ k ∧ k < w.heap.size := by
  obtain ⟨hdrs, h⟩ := h
  exact World.ownsRow.lt h.o
theorem Pcs.slice {ty : TypeId} {sz base : Nat} {v : Value} {ps : List Pc} {w : World} (h : Pcs ty sz base v ps w) : ∃ A cap, v = .slice A ps.length cap := by
  obtain ⟨hdrs, h⟩ := h
  rcases h.o.2 with ⟨rfl, h0⟩ | ⟨g, cap, cur, rfl, rest⟩
  · exact ⟨none, 0, by rw [h0]⟩
  · exact ⟨_, cap, rfl⟩
/-- Piece i, to be read. -/
theorem Pcs.at {ty : TypeId} {sz base : Nat} {v : Value} {ps : List Pc} {w : World} (h : Pcs ty sz base v ps w) {i : Nat} {x : Pc} (hi : ps[i]? = some x) :
    ∃ g cap nv, v = .slice (some ⟨g, 0, none⟩) ps.length cap ∧ ps.length ≤ cap ∧ cap ≤ 9223372036854775807 ∧ base ≤ g ∧ g < w.heap.size ∧ w.cell? ⟨g, i * sz, none⟩ = some (.int .u8 x.k.toNat) ∧ w.cell? ⟨g, i * sz + 1, none⟩ = some nv ∧ NumsAt w nv x.ns ∧ ∀ j, 2 ≤ j → j < sz → ∃ b, w.cell? ⟨g, i * sz + j, none⟩ = some (.string b) := by
  obtain ⟨hdrs, h⟩ := h
  have hil := (List.getElem?_eq_some_iff.1 hi).1
  obtain ⟨nv, k1, k2, k3, k4, k5⟩ := h.r i x hi
  rcases h.o.2 with ⟨rfl, h0⟩ | ⟨g, cap, cur, rfl, hbg, hg, hn, hm, hs, ht⟩
  · omega
  · have hc := World.ownsRow.cells h.o (g := g) rfl
    have c1 := hc _ _ k1
    have c2 := hc _ _ k2
    rw [add_none0] at c1 c2
    exact ⟨g, cap, nv, rfl, hn, by unfold maxLen at hm; omega, hbg, (Array.getElem?_eq_some_iff.1 hg).1, c1, c2, k3, fun j h2 h3 => by
      obtain ⟨b, hb⟩ := k5 j h2 h3
      have c3 := hc _ _ hb
      rw [add_none0] at c3
      exact ⟨b, c3⟩⟩
theorem Pcs.made (ty : TypeId) (sz : Nat) (w : World) (base : Nat) (hb : base ≤ w.heap.size) : Pcs ty sz base (.slice (some ⟨w.heap.size, 0, none⟩) 0 0) [] (w.alloc (.cells #[] ty)) :=
  ⟨[], ⟨by simp, .inr ⟨w.heap.size, 0, #[], rfl, hb, heap_alloc_new w _, Nat.le_refl _, by unfold maxLen; omega, by simp, by simp⟩⟩, fun i x hi => by simp at hi⟩
/-- 'append(v, piece)'. -/
theorem wp_appPc {P : Program} {o : Oper} {a : Act} {K : Act → World → Prop} {Q : Exit → Act → World → Prop} (ts te : TypeId) (z : Value) (sz by' : Nat) (hT : P.underlying ts = some (.slice te))
    (hinfo : (P.info? te).map (fun i => (i.zero, i.size, i.bytes)) = some (some z, sz, by')) (hzc : z.cells.size = sz) (hsz : 2 ≤ sz)
    (s x : Operand) (ho : o.op = .call { callee := .builtin .append, args := #[s, x], argTypes := #[ts, ts] })
    (base : Nat) (v : Value) (ps : List Pc) (W : World) (hs : a.eval s = v) (hO : Pcs te sz base v ps W) (gb c : Nat) (hx : a.eval x = .slice (some ⟨gb, 0, none⟩) 1 c) (p : Pc) (nv : Value) (tail : List Value) (hl : tail.length + 2 = sz)
    (hnews : ∀ j u, (Value.int .u8 p.k.toNat :: nv :: tail)[j]? = some u → W.cell? ⟨gb, j, none⟩ = some u) (h1 : ∀ u ∈ tail, ∃ b, u = Value.string b) (hn : NumsAt W nv p.ns) (hnb : ∀ k, nv.ownBlock = some k → v.ownBlock ≠ some k ∧ base ≤ k)
    (hlen : ps.length + 1 < 4000000) (hby : by' ≤ 64) (hb : base ≤ W.heap.size)
    (h : ∀ v' w', Pcs te sz base v' (ps ++ [p]) w' → W.grownBy w' v.ownBlock → (v'.ownBlock = v.ownBlock ∨ v'.ownBlock = some W.heap.size) → K (a.put o.dst v') w') : o.wp P a W K Q := by
  obtain ⟨hdrs, hO⟩ := hO
  have hnv1 : nv.oneCell' = true := by obtain ⟨g, cap, rfl, -⟩ := hn; rfl
  have hdl : hdrs.length = ps.length * sz := hO.o.1
  refine wp_app1 ts te z sz by' hT hinfo hzc (by omega) s x ho base v ps.length hdrs W hs hO.o gb c hx (Value.int .u8 p.k.toNat :: nv :: tail) (by simp; omega) hnews (fun u hu => ?_) hlen hby hb fun v' w' h2 h3 h5 => h v' w' ⟨_, by rw [List.length_append]; exact h2, fun i y hi => ?_⟩ h3 h5
  · rcases List.mem_cons.1 hu with rfl | hu
    · rfl
    · rcases List.mem_cons.1 hu with rfl | hu
      · exact hnv1
      · obtain ⟨b, rfl⟩ := h1 u hu
        rfl
  · have keep : ∀ (k : Nat), k < W.heap.size → v.ownBlock ≠ some k → v'.ownBlock ≠ some k := by
      intro k hk hne he
      rcases h5 with h5 | h5
      · exact hne (h5 ▸ he)
      · rw [h5] at he
        have := Option.some.inj he
        omega
    rcases Nat.lt_or_ge i ps.length with hil | hil
    · rw [List.getElem?_append_left hil] at hi
      obtain ⟨nv', k1, k2, k3, k4, k5⟩ := hO.r i y hi
      have hb1 : i * sz + sz ≤ ps.length * sz := by rw [← Nat.succ_mul]; exact Nat.mul_le_mul_right sz hil
      refine ⟨nv', by rw [List.getElem?_append_left (by omega)]; exact k1, by rw [List.getElem?_append_left (by omega)]; exact k2, k3.grown h3 (fun k hk e => (k4 k hk).1 e), fun k hk => ⟨keep k (k3.blk k hk) (k4 k hk).1, (k4 k hk).2⟩, fun j j2 j3 => by rw [List.getElem?_append_left (by omega)]; exact k5 j j2 j3⟩
    · have hi1 := (List.getElem?_eq_some_iff.1 hi).1
      rw [List.length_append] at hi1
      simp only [List.length_cons, List.length_nil] at hi1
      obtain rfl : i = ps.length := by omega
      rw [List.getElem?_append_right (Nat.le_refl _), Nat.sub_self] at hi
      obtain rfl : p = y := by simpa using hi
      refine ⟨nv, by rw [List.getElem?_append_right (by omega), hdl, Nat.sub_self]; rfl, by rw [List.getElem?_append_right (by omega), hdl, show ps.length * sz + 1 - ps.length * sz = 1 by omega]; rfl, hn.grown h3 (fun k hk e => (hnb k hk).1 e), fun k hk => ⟨keep k (hn.blk k hk) (hnb k hk).1, (hnb k hk).2⟩, fun j j2 j3 => by
        rw [List.getElem?_append_right (by omega), hdl, show ps.length * sz + j - ps.length * sz = (j - 2) + 2 by omega]
        have hjl : j - 2 < tail.length := by omega
        obtain ⟨b, hb⟩ := h1 _ (List.getElem_mem hjl)
        exact ⟨b, by rw [List.getElem?_cons_succ, List.getElem?_cons_succ, List.getElem?_eq_getElem hjl, hb]⟩⟩
theorem infoPc : (Tryz.prog.info? 115).map (fun i => (i.zero, i.size, i.bytes)) = some (some (.agg #[.int .u8 0, .slice none 0 0, .string ByteArray.empty]), 3, 48) := by kernel_rfl
theorem wpList_appP {ops : Array Oper} {rest : List Oper} {o : Oper} {a : Act} {Q : Exit → Act → World → Prop} (hgd : o.guard = none) (s x : Operand) (ho : o.op = .call { callee := .builtin .append, args := #[s, x], argTypes := #[111, 111] })
    (base : Nat) (v : Value) (ps : List Pc) (W : World) (hs : a.eval s = v) (hO : Pcs 115 3 base v ps W) (gb c : Nat) (hx : a.eval x = .slice (some ⟨gb, 0, none⟩) 1 c) (p : Pc) (nv : Value) (b : ByteArray)
    (h0 : W.cell? ⟨gb, 0, none⟩ = some (.int .u8 p.k.toNat)) (h1 : W.cell? ⟨gb, 1, none⟩ = some nv) (h2 : W.cell? ⟨gb, 2, none⟩ = some (.string b)) (hn : NumsAt W nv p.ns) (hnb : ∀ k, nv.ownBlock = some k → v.ownBlock ≠ some k ∧ base ≤ k)
    (hlen : ps.length + 1 < 4000000) (hb : base ≤ W.heap.size) (h : ∀ v' w', Pcs 115 3 base v' (ps ++ [p]) w' → W.grownBy w' v.ownBlock → (v'.ownBlock = v.ownBlock ∨ v'.ownBlock = some W.heap.size) → wpList Tryz.prog ops Q rest (a.put o.dst v') w') : wpList Tryz.prog ops Q (o :: rest) a W :=
  wpList_plain hgd fun _ hK => wp_appPc 111 115 _ 3 48 Tryz.underlying111 infoPc rfl (by decide) s x ho base v ps W hs hO gb c hx p nv [.string b] rfl
    (fun j u hj => by
      match j, hj with
      | 0, hj => simp at hj; subst hj; exact h0
      | 1, hj => simp at hj; subst hj; exact h1
      | 2, hj => simp at hj; subst hj; exact h2) (fun u hu => by simp only [List.mem_singleton] at hu; exact ⟨_, hu⟩) hn hnb hlen (by decide) hb fun v' w' k2 k3 k5 => hK _ _ (h v' w' k2 k3 k5)
theorem infoLPc : (Tryz.prog.info? 90).map (fun i => (i.zero, i.size, i.bytes)) = some (some (.agg #[.int .u8 0, .slice none 0 0]), 2, 32) := by kernel_rfl
theorem wpList_appL {ops : Array Oper} {rest : List Oper} {o : Oper} {a : Act} {Q : Exit → Act → World → Prop} (hgd : o.guard = none) (s x : Operand) (ho : o.op = .call { callee := .builtin .append, args := #[s, x], argTypes := #[80, 80] })
    (base : Nat) (v : Value) (ps : List Pc) (W : World) (hs : a.eval s = v) (hO : Pcs 90 2 base v ps W) (gb c : Nat) (hx : a.eval x = .slice (some ⟨gb, 0, none⟩) 1 c) (p : Pc) (nv : Value)
    (h0 : W.cell? ⟨gb, 0, none⟩ = some (.int .u8 p.k.toNat)) (h1 : W.cell? ⟨gb, 1, none⟩ = some nv) (hn : NumsAt W nv p.ns) (hnb : ∀ k, nv.ownBlock = some k → v.ownBlock ≠ some k ∧ base ≤ k)
    (hlen : ps.length + 1 < 4000000) (hb : base ≤ W.heap.size) (h : ∀ v' w', Pcs 90 2 base v' (ps ++ [p]) w' → W.grownBy w' v.ownBlock → (v'.ownBlock = v.ownBlock ∨ v'.ownBlock = some W.heap.size) → wpList Tryz.prog ops Q rest (a.put o.dst v') w') : wpList Tryz.prog ops Q (o :: rest) a W :=
  wpList_plain hgd fun _ hK => wp_appPc 80 90 _ 2 32 Tryz.underlying80 infoLPc rfl (by decide) s x ho base v ps W hs hO gb c hx p nv [] rfl
    (fun j u hj => by
      match j, hj with
      | 0, hj => simp at hj; subst hj; exact h0
      | 1, hj => simp at hj; subst hj; exact h1) (fun u hu => by cases hu) hn hnb hlen (by decide) hb fun v' w' k2 k3 k5 => hK _ _ (h v' w' k2 k3 k5)
end Go.Proofs.YtkdggljioekkhaaGreatDoor
