/-
  Texts of this claim, joined: Bh; Bm; Bi; Bj. Nothing is claimed here; the other texts of this claim use it.
-/
import Derived.Test.YtjbnkefeacineaaGreatDoorSp
import Derived.Test.YtjbnkefeacineaaGreatDoorBb
import Derived.Deep.Cut
import Derived.Lib.Hide
import Derived.Test.YtjbnkefeacineaaGreatDoorPa
import Derived.Maps.AppendAt
import Derived.OwnWalk
import Derived.Deep.WholeRow
import Derived.Test.YtjbnkefeacineaaGreatDoorBo
import Derived.Test.YtjbnkefeacineaaGreatDoorJj
import Derived.Laws.DeepStrings4
import Derived.WalkSpells
import Derived.Deep.CutRange
import Derived.Deep.RegionHeld3
import Derived.BigQuiet
namespace Go.Proofs.YtjbnkefeacineaaGreatDoor
set_option linter.unusedSimpArgs false
set_option linter.unusedVariables false
section
open Go.RowKit
theorem numI_yes {s : ByteArray} {n : Int} (h : Lib.atoiAll s.data.toList = .ok n) : (numI s.data.toList).isSome = (Lib.itoa n == s.toList) ∧ ∀ v, numI s.data.toList = some v → n = v := by
  rw [ByteArray.toList_eq]
  unfold numI
  rw [h]
  simp only
  by_cases hc : Lib.itoa n = s.data.toList
  · rw [if_pos hc]
    exact ⟨by simp [hc], fun v hv => Option.some.inj hv⟩
  · rw [if_neg hc]
    exact ⟨by simp [hc], fun v hv => by cases hv⟩
theorem numI_no {l : List UInt8} (h : ∀ v, Lib.atoiAll l ≠ .ok v) : numI l = none := by
  unfold numI
  split
  · rename_i v hv
    exact absurd hv (h v)
  · rfl
set_option maxHeartbeats 1000000 in
theorem plain_any (s : ByteArray) (w : World) (hs : s.size ≤ 281474976710656) (hG : GL w) :
    Calls Tryz.prog 135 #[.string s] w fun e w' => ∃ n, e = .returned (.tuple #[.int .i64 n, .bool (numI s.data.toList).isSome]) ∧ (∀ v, numI s.data.toList = some v → n = v) ∧ Below w.heap.size w w' := by
  go_enter Tryz.func135, Tryz.ntmps135
  go_upto_region 2 with (go_at_call 150; (with_reducible refine (atoi_c s _ hs hG).mono ?_); rintro e w1 ⟨n, ev, rfl, hcase, hb⟩)
  rcases hcase with ⟨rfl, hok⟩ | ⟨⟨t, p, rfl⟩, hno⟩
  · obtain ⟨h1, h2⟩ := numI_yes hok
    have hr := atoi_range hok
    have H1 := Lib.hid h1
    have H2 := Lib.hid h2
    clear h1 h2 hok
    go_wp2_with (go_at_call 151; (with_reducible refine (itoa_c n _ hr (hG.below hb)).mono ?_); rintro e w2 ⟨rfl, hb2⟩)
    go_ret2
    exact ⟨n, by rw [H1.out]; rfl, H2.out, bstep hb hb2 hb.size⟩
  · have h0 := Lib.hid (numI_no hno)
    clear hno
    go_wp2
    go_ret2
    exact ⟨n, (by rw [h0.out]; rfl), (fun v h => by rw [h0.out] at h; cases h), hb⟩
theorem plain_l (l : List UInt8) (ok : Bool) (w : World) (hs : l.length ≤ 281474976710656) (hG : GL w) (hok : Hid ((numI l).isSome = ok)) :
    Calls Tryz.prog 135 #[.string ⟨l.toArray⟩] w fun e w' => ∃ n, e = .returned (.tuple #[.int .i64 n, .bool ok]) ∧ Hid (∀ v, numI l = some v → n = v) ∧ Below w.heap.size w w' := by
  have h := plain_any ⟨l.toArray⟩ w (by rw [Lib.size_eq]; simpa using hs) hG
  simp only [hok.out] at h
  exact h
end
section
open Go.RowKit
theorem add_none0 (g j : Nat) : (⟨g, 0, none⟩ : Addr).add j = ⟨g, j, none⟩ := by unfold Addr.add; split <;> simp_all
theorem info_parts0 {P : Program} {t : TypeId} {z : Value} {a b : Nat} (h : (P.info? t).map (fun i => (i.zero, i.size, i.bytes)) = some (some z, a, b)) : ∃ i0, P.info? t = some i0 ∧ i0.zero = some z ∧ i0.size = a ∧ i0.bytes = b := by
  cases hi : P.info? t with
  | none => rw [hi] at h; cases h
  | some i0 =>
    rw [hi] at h
    simp only [Option.map_some, Option.some.injEq, Prod.mk.injEq] at h
    exact ⟨i0, rfl, h.1, h.2.1, h.2.2⟩
/-- 'append(v, x)' onto a list of the call's own: one element more. -/
theorem wp_app1 {P : Program} {o : Oper} {a : Act} {K : Act → World → Prop} {Q : Exit → Act → World → Prop} (ts te : TypeId) (z : Value) (sz by' : Nat) (hT : P.underlying ts = some (.slice te))
    (hinfo : (P.info? te).map (fun i => (i.zero, i.size, i.bytes)) = some (some z, sz, by')) (hzc : z.cells.size = sz) (hsz : 0 < sz)
    (s x : Operand) (ho : o.op = .call { callee := .builtin .append, args := #[s, x], argTypes := #[ts, ts] })
    (base : Nat) (v : Value) (n : Nat) (hdrs : List Value) (W : World) (hs : a.eval s = v) (hO : W.ownsRow base te sz v n hdrs) (gb c : Nat) (hx : a.eval x = .slice (some ⟨gb, 0, none⟩) 1 c) (news : List Value) (hl : news.length = sz)
    (hnews : ∀ j u, news[j]? = some u → W.cell? ⟨gb, j, none⟩ = some u) (h1 : ∀ u ∈ news, u.oneCell' = true) (hlen : n + 1 < 4000000) (hby : by' ≤ 64) (hb : base ≤ W.heap.size)
    (h : ∀ v' w', w'.ownsRow base te sz v' (n + 1) (hdrs ++ news) → W.grownBy w' v.ownBlock → (v'.ownBlock = v.ownBlock ∨ v'.ownBlock = some W.heap.size) → K (a.put o.dst v') w') : o.wp P a W K Q := by
  obtain ⟨i0, hi, hz0, hz1, hz2⟩ := info_parts0 hinfo
  obtain ⟨v', w', hr, h2, h3, h4, h5⟩ := run_append_own_at (P := P) W base ts o.type te i0 z sz by' hT hi hz0 hz1 hz2 hzc hsz v n hdrs hO ⟨gb, 0, none⟩ 1 c news (by omega) (fun j u hj => by rw [add_none0]; exact hnews j u hj) h1 (by unfold maxLen; omega)
    (by have := Nat.mul_le_mul (show n + 1 ≤ 4000000 by omega) hby; omega) hb
  unfold Oper.wp execOp
  simp only [ho, resolve, invoke, builtin, Sem.run_bind, Sem.run_pure, Result.andThen_ok, List.map_toArray, List.map_cons, List.map_nil, hs, hx, hr]
  exact h v' w' h2 h3 h5
/-- Whole numbers of the call's own. -/
def OwI (base : Nat) (v : Value) (ns : List Int) (w : World) : Prop := w.ownsRow base 3 1 v ns.length (ns.map fun n => Value.int .i64 n)
theorem OwI.grown {base : Nat} {v : Value} {ns : List Int} {w w' : World} {row : Option Nat} (h : OwI base v ns w) (hg : w.grownBy w' row) (hne : v.ownBlock = none ∨ v.ownBlock ≠ row) : OwI base v ns w' := World.ownsRow.kept h hg hne
theorem OwI.below {base : Nat} {v : Value} {ns : List Int} {w w' : World} (h : OwI base v ns w) (hb : Below w.heap.size w w') : OwI base v ns w' := by
  refine ⟨h.1, ?_⟩
  rcases h.2 with hn | ⟨g, cap, cur, rfl, hbg, hg, rest⟩
  · exact .inl hn
  · exact .inr ⟨g, cap, cur, rfl, hbg, (hb.block g (Array.getElem?_eq_some_iff.1 hg).1).trans hg, rest⟩
theorem OwI.mono {base base' : Nat} {v : Value} {ns : List Int} {w : World} (h : OwI base v ns w) (hb : base' ≤ base) : OwI base' v ns w := by
  refine ⟨h.1, ?_⟩
  rcases h.2 with hn | ⟨g, cap, cur, rfl, hbg, rest⟩
  · exact .inl hn
  · exact .inr ⟨g, cap, cur, rfl, by omega, rest⟩
theorem OwI.far {base : Nat} {v : Value} {ns : List Int} {w : World} (h : OwI base v ns w) {p : Addr} (hp : ∀ k, v.ownBlock = some k → k ≠ p.block) (u : Value) : OwI base v ns (w.setCell p u) := by
  refine ⟨h.1, ?_⟩
  rcases h.2 with hn | ⟨g, cap, cur, rfl, hbg, hg, rest⟩
  · exact .inl hn
  · exact .inr ⟨g, cap, cur, rfl, hbg, (Below.heap_setCell w p u g (hp g rfl)).trans hg, rest⟩
theorem OwI.lt {base : Nat} {v : Value} {ns : List Int} {w : World} (h : OwI base v ns w) : ∀ k, v.ownBlock = some k → base ≤ k ∧ k < w.heap.size := World.ownsRow.lt h
theorem OwI.slice {base : Nat} {v : Value} {ns : List Int} {w : World} (h : OwI base v ns w) : ∃ A cap, v = .slice A ns.length cap := by
  rcases h.2 with ⟨rfl, h0⟩ | ⟨g, cap, cur, rfl, rest⟩
  · exact ⟨none, 0, by rw [h0]⟩
  · exact ⟨_, cap, rfl⟩
/-- Where the numbers lie. -/
theorem OwI.at {base : Nat} {v : Value} {ns : List Int} {w : World} (h : OwI base v ns w) (h0 : 0 < ns.length) : ∃ g cap, v = .slice (some ⟨g, 0, none⟩) ns.length cap ∧ ns.length ≤ cap ∧ cap ≤ 9223372036854775807 ∧ base ≤ g ∧ g < w.heap.size ∧ ∀ j n, ns[j]? = some n → w.cell? ⟨g, j, none⟩ = some (.int .i64 n) := by
  rcases h.2 with ⟨rfl, hz⟩ | ⟨g, cap, cur, rfl, hbg, hg, hn, hm, hs, ht⟩
  · omega
  · have hc := World.ownsRow.cells h (g := g) rfl
    refine ⟨g, cap, rfl, hn, by unfold maxLen at hm; omega, hbg, (Array.getElem?_eq_some_iff.1 hg).1, fun j n hj => ?_⟩
    have := hc j (.int .i64 n) (by rw [List.getElem?_map, hj]; rfl)
    rwa [add_none0] at this
theorem OwI.nil (base : Nat) (w : World) : OwI base (.slice none 0 0) [] w := World.ownsRow_nil _ _ _ _
theorem OwI.made (w : World) (base : Nat) (hb : base ≤ w.heap.size) : OwI base (.slice (some ⟨w.heap.size, 0, none⟩) 0 0) [] (w.alloc (.cells #[] 3)) :=
  ⟨rfl, .inr ⟨w.heap.size, 0, #[], rfl, hb, heap_alloc_new w _, Nat.le_refl _, by unfold maxLen; omega, rfl, rfl⟩⟩
theorem infoI : (Tryz.prog.info? 3).map (fun i => (i.zero, i.size, i.bytes)) = some (some (.int .i64 0), 1, 8) := by kernel_rfl
/-- 'append(v, n)'. -/
theorem wpList_appI {ops : Array Oper} {rest : List Oper} {o : Oper} {a : Act} {Q : Exit → Act → World → Prop} (hgd : o.guard = none) (s x : Operand) (ho : o.op = .call { callee := .builtin .append, args := #[s, x], argTypes := #[88, 88] })
    (base : Nat) (v : Value) (ns : List Int) (W : World) (hs : a.eval s = v) (hO : OwI base v ns W) (gb c : Nat) (n : Int) (hx : a.eval x = .slice (some ⟨gb, 0, none⟩) 1 c) (hc : W.cell? ⟨gb, 0, none⟩ = some (.int .i64 n)) (hlen : ns.length + 1 < 4000000) (hb : base ≤ W.heap.size)
    (h : ∀ v' w', OwI base v' (ns ++ [n]) w' → W.grownBy w' v.ownBlock → wpList Tryz.prog ops Q rest (a.put o.dst v') w') : wpList Tryz.prog ops Q (o :: rest) a W :=
  wpList_plain hgd fun _ hK => wp_app1 88 3 _ 1 8 Tryz.underlying88 infoI rfl (by decide) s x ho base v ns.length _ W hs hO gb c hx [.int .i64 n] rfl
    (fun j u hj => by
      match j, hj with
      | 0, hj => simp at hj; subst hj; exact hc) (fun u hu => by simp only [List.mem_singleton] at hu; subst hu; rfl) hlen (by decide) hb
    fun v' w' h2 h3 _ => hK _ _ (h v' w' (by unfold OwI; rw [List.length_append, List.map_append]; exact h2) h3)
/-- Words of the call's own. -/
def OwT (base : Nat) (v : Value) (ts : List (List UInt8)) (w : World) : Prop := w.ownsRow base 9 1 v ts.length (ts.map fun l => Value.string ⟨l.toArray⟩)
theorem OwT.grown {base : Nat} {v : Value} {ts : List (List UInt8)} {w w' : World} {row : Option Nat} (h : OwT base v ts w) (hg : w.grownBy w' row) (hne : v.ownBlock = none ∨ v.ownBlock ≠ row) : OwT base v ts w' := World.ownsRow.kept h hg hne
theorem OwT.below {base : Nat} {v : Value} {ts : List (List UInt8)} {w w' : World} (h : OwT base v ts w) (hb : Below w.heap.size w w') : OwT base v ts w' := by
  refine ⟨h.1, ?_⟩
  rcases h.2 with hn | ⟨g, cap, cur, rfl, hbg, hg, rest⟩
  · exact .inl hn
  · exact .inr ⟨g, cap, cur, rfl, hbg, (hb.block g (Array.getElem?_eq_some_iff.1 hg).1).trans hg, rest⟩
theorem OwT.lt {base : Nat} {v : Value} {ts : List (List UInt8)} {w : World} (h : OwT base v ts w) : ∀ k, v.ownBlock = some k → base ≤ k ∧ k < w.heap.size := World.ownsRow.lt h
theorem OwT.at {base : Nat} {v : Value} {ts : List (List UInt8)} {w : World} (h : OwT base v ts w) (h0 : 0 < ts.length) : ∃ g cap, v = .slice (some ⟨g, 0, none⟩) ts.length cap ∧ ts.length ≤ cap ∧ cap ≤ 9223372036854775807 ∧ base ≤ g ∧ g < w.heap.size ∧ ∀ j l, ts[j]? = some l → w.cell? ⟨g, j, none⟩ = some (.string ⟨l.toArray⟩) := by
  rcases h.2 with ⟨rfl, hz⟩ | ⟨g, cap, cur, rfl, hbg, hg, hn, hm, hs, ht⟩
  · omega
  · have hc := World.ownsRow.cells h (g := g) rfl
    refine ⟨g, cap, rfl, hn, by unfold maxLen at hm; omega, hbg, (Array.getElem?_eq_some_iff.1 hg).1, fun j l hj => ?_⟩
    have := hc j (.string ⟨l.toArray⟩) (by rw [List.getElem?_map, hj]; rfl)
    rwa [add_none0] at this
theorem OwT.made (w : World) (base : Nat) (hb : base ≤ w.heap.size) : OwT base (.slice (some ⟨w.heap.size, 0, none⟩) 0 0) [] (w.alloc (.cells #[] 9)) :=
  ⟨rfl, .inr ⟨w.heap.size, 0, #[], rfl, hb, heap_alloc_new w _, Nat.le_refl _, by unfold maxLen; omega, rfl, rfl⟩⟩
theorem infoT : (Tryz.prog.info? 9).map (fun i => (i.zero, i.size, i.bytes)) = some (some (.string ByteArray.empty), 1, 16) := by kernel_rfl
/-- 'append(v, word)'. -/
theorem wpList_appT {ops : Array Oper} {rest : List Oper} {o : Oper} {a : Act} {Q : Exit → Act → World → Prop} (hgd : o.guard = none) (s x : Operand) (ho : o.op = .call { callee := .builtin .append, args := #[s, x], argTypes := #[113, 113] })
    (base : Nat) (v : Value) (ts : List (List UInt8)) (W : World) (hs : a.eval s = v) (hO : OwT base v ts W) (gb c : Nat) (l : List UInt8) (b : ByteArray) (hx : a.eval x = .slice (some ⟨gb, 0, none⟩) 1 c) (hc : W.cell? ⟨gb, 0, none⟩ = some (.string b)) (hbl : b = ⟨l.toArray⟩) (hlen : ts.length + 1 < 4000000) (hb : base ≤ W.heap.size)
    (h : ∀ v' w', OwT base v' (ts ++ [l]) w' → W.grownBy w' v.ownBlock → wpList Tryz.prog ops Q rest (a.put o.dst v') w') : wpList Tryz.prog ops Q (o :: rest) a W :=
  wpList_plain hgd fun _ hK => wp_app1 113 9 _ 1 16 Tryz.underlying113 infoT rfl (by decide) s x ho base v ts.length _ W hs hO gb c hx [.string b] rfl
    (fun j u hj => by
      match j, hj with
      | 0, hj => simp at hj; subst hj; exact hc) (fun u hu => by simp only [List.mem_singleton] at hu; subst hu; rfl) hlen (by decide) hb
    fun v' w' h2 h3 _ => hK _ _ (h v' w' (by subst hbl; unfold OwT; rw [List.length_append, List.map_append]; exact h2) h3)
/-- A piece's numbers, to be read. -/
def NumsAt (w : World) (v : Value) (ns : List Int) : Prop := ∃ g cap, v = .slice (some ⟨g, 0, none⟩) ns.length cap ∧ ns.length ≤ cap ∧ cap ≤ 9223372036854775807 ∧ g < w.heap.size ∧ ∀ j n, ns[j]? = some n → w.cell? ⟨g, j, none⟩ = some (.int .i64 n)
theorem NumsAt.below {w w' : World} {v : Value} {ns : List Int} (h : NumsAt w v ns) (hb : Below w.heap.size w w') : NumsAt w' v ns := by
  obtain ⟨g, cap, h1, h2, h3, h4, h5⟩ := h
  exact ⟨g, cap, h1, h2, h3, Nat.lt_of_lt_of_le h4 hb.size, fun j n hj => (hb.cell (p := ⟨g, j, none⟩) h4).trans (h5 j n hj)⟩
theorem NumsAt.grown {w w' : World} {v : Value} {ns : List Int} {row : Option Nat} (h : NumsAt w v ns) (hg : w.grownBy w' row) (hne : ∀ k, v.ownBlock = some k → row ≠ some k) : NumsAt w' v ns := by
  obtain ⟨g, cap, rfl, h2, h3, h4, h5⟩ := h
  refine ⟨g, cap, rfl, h2, h3, Nat.lt_of_lt_of_le h4 hg.size, fun j n hj => ?_⟩
  rw [World.cell?_of_block (hg.block g h4 (fun e => hne g rfl e.symm))]
  exact h5 j n hj
theorem NumsAt.of {base : Nat} {v : Value} {ns : List Int} {w : World} (h : OwI base v ns w) (h0 : 0 < ns.length) : NumsAt w v ns := by
  obtain ⟨g, cap, h1, h2, h3, h4, h5, h6⟩ := h.at h0
  exact ⟨g, cap, h1, h2, h3, h5, h6⟩
theorem NumsAt.blk {w : World} {v : Value} {ns : List Int} (h : NumsAt w v ns) : ∀ k, v.ownBlock = some k → k < w.heap.size := by
  obtain ⟨g, cap, rfl, h2, h3, h4, h5⟩ := h
  intro k hk
  obtain rfl : g = k := Option.some.inj hk
  exact h4
/-- Pieces of the call's own: each with its letter and its numbers; sz cells each. -/
structure OwPc (ty : TypeId) (sz base : Nat) (v : Value) (ps : List Pc) (w : World) (hdrs : List Value) : Prop where
  o : w.ownsRow base ty sz v ps.length hdrs
  r : ∀ (i : Nat) (x : Pc), ps[i]? = some x → ∃ nv, hdrs[i * sz]? = some (.int .u8 x.k.toNat) ∧ hdrs[i * sz + 1]? = some nv ∧ NumsAt w nv x.ns ∧ (∀ k, nv.ownBlock = some k → v.ownBlock ≠ some k ∧ base ≤ k) ∧ ∀ j, 2 ≤ j → j < sz → ∃ b, hdrs[i * sz + j]? = some (Value.string b)
def Pcs (ty : TypeId) (sz base : Nat) (v : Value) (ps : List Pc) (w : World) : Prop := ∃ hdrs, OwPc ty sz base v ps w hdrs
theorem Pcs.below {ty : TypeId} {sz base : Nat} {v : Value} {ps : List Pc} {w w' : World} (h : Pcs ty sz base v ps w) (hb : Below w.heap.size w w') : Pcs ty sz base v ps w' := by
  obtain ⟨hdrs, h⟩ := h
  refine ⟨hdrs, ⟨h.o.1, ?_⟩, fun i x hi => ?_⟩
  · rcases h.o.2 with hn | ⟨g, cap, cur, rfl, hbg, hg, rest⟩
    · exact .inl hn
    · exact .inr ⟨g, cap, cur, rfl, hbg, (hb.block g (Array.getElem?_eq_some_iff.1 hg).1).trans hg, rest⟩
  · obtain ⟨nv, k1, k2, k3, k4⟩ := h.r i x hi
    exact ⟨nv, k1, k2, k3.below hb, k4⟩
theorem Pcs.lt {ty : TypeId} {sz base : Nat} {v : Value} {ps : List Pc} {w : World} (h : Pcs ty sz base v ps w) : ∀ k, v.ownBlock = some k → base ≤ k ∧ k < w.heap.size := by
  obtain ⟨hdrs, h⟩ := h
  exact World.ownsRow.lt h.o
theorem Pcs.slice {ty : TypeId} {sz base : Nat} {v : Value} {ps : List Pc} {w : World} (h : Pcs ty sz base v ps w) : ∃ A cap, v = .slice A ps.length cap := by
  obtain ⟨hdrs, h⟩ := h
  rcases h.o.2 with ⟨rfl, h0⟩ | ⟨g, cap, cur, rfl, rest⟩
  · exact ⟨none, 0, by rw [h0]⟩
  · exact ⟨_, cap, rfl⟩
/-- Piece i, to be read. -/
theorem Pcs.at {ty : TypeId} {sz base : Nat} {v : Value} {ps : List Pc} {w : World} (h : Pcs ty sz base v ps w) {i : Nat} {x : Pc} (hi : ps[i]? = some x) :
    ∃ g cap nv, v = .slice (some ⟨g, 0, none⟩) ps.length cap ∧ ps.length ≤ cap ∧ cap ≤ 9223372036854775807 ∧ base ≤ g ∧ g < w.heap.size ∧ w.cell? ⟨g, i * sz, none⟩ = some (.int .u8 x.k.toNat) ∧ w.cell? ⟨g, i * sz + 1, none⟩ = some nv ∧ NumsAt w nv x.ns ∧ ∀ j, 2 ≤ j → j < sz → ∃ b, w.cell? ⟨g, i * sz + j, none⟩ = some (.string b) := by
  obtain ⟨hdrs, h⟩ := h
  have hil := (List.getElem?_eq_some_iff.1 hi).1
  obtain ⟨nv, k1, k2, k3, k4, k5⟩ := h.r i x hi
  rcases h.o.2 with ⟨rfl, h0⟩ | ⟨g, cap, cur, rfl, hbg, hg, hn, hm, hs, ht⟩
  · omega
  · have hc := World.ownsRow.cells h.o (g := g) rfl
    have c1 := hc _ _ k1
    have c2 := hc _ _ k2
    rw [add_none0] at c1 c2
    exact ⟨g, cap, nv, rfl, hn, by unfold maxLen at hm; omega, hbg, (Array.getElem?_eq_some_iff.1 hg).1, c1, c2, k3, fun j h2 h3 => by
      obtain ⟨b, hb⟩ := k5 j h2 h3
      have c3 := hc _ _ hb
      rw [add_none0] at c3
      exact ⟨b, c3⟩⟩
theorem Pcs.made (ty : TypeId) (sz : Nat) (w : World) (base : Nat) (hb : base ≤ w.heap.size) : Pcs ty sz base (.slice (some ⟨w.heap.size, 0, none⟩) 0 0) [] (w.alloc (.cells #[] ty)) :=
  ⟨[], ⟨by simp, .inr ⟨w.heap.size, 0, #[], rfl, hb, heap_alloc_new w _, Nat.le_refl _, by unfold maxLen; omega, by simp, by simp⟩⟩, fun i x hi => by simp at hi⟩
/-- 'append(v, piece)'. -/
theorem wp_appPc {P : Program} {o : Oper} {a : Act} {K : Act → World → Prop} {Q : Exit → Act → World → Prop} (ts te : TypeId) (z : Value) (sz by' : Nat) (hT : P.underlying ts = some (.slice te))
    (hinfo : (P.info? te).map (fun i => (i.zero, i.size, i.bytes)) = some (some z, sz, by')) (hzc : z.cells.size = sz) (hsz : 2 ≤ sz)
    (s x : Operand) (ho : o.op = .call { callee := .builtin .append, args := #[s, x], argTypes := #[ts, ts] })
    (base : Nat) (v : Value) (ps : List Pc) (W : World) (hs : a.eval s = v) (hO : Pcs te sz base v ps W) (gb c : Nat) (hx : a.eval x = .slice (some ⟨gb, 0, none⟩) 1 c) (p : Pc) (nv : Value) (tail : List Value) (hl : tail.length + 2 = sz)
    (hnews : ∀ j u, (Value.int .u8 p.k.toNat :: nv :: tail)[j]? = some u → W.cell? ⟨gb, j, none⟩ = some u) (h1 : ∀ u ∈ tail, ∃ b, u = Value.string b) (hn : NumsAt W nv p.ns) (hnb : ∀ k, nv.ownBlock = some k → v.ownBlock ≠ some k ∧ base ≤ k)
    (hlen : ps.length + 1 < 4000000) (hby : by' ≤ 64) (hb : base ≤ W.heap.size)
    (h : ∀ v' w', Pcs te sz base v' (ps ++ [p]) w' → W.grownBy w' v.ownBlock → (v'.ownBlock = v.ownBlock ∨ v'.ownBlock = some W.heap.size) → K (a.put o.dst v') w') : o.wp P a W K Q := by
  obtain ⟨hdrs, hO⟩ := hO
  have hnv1 : nv.oneCell' = true := by obtain ⟨g, cap, rfl, -⟩ := hn; rfl
  have hdl : hdrs.length = ps.length * sz := hO.o.1
  refine wp_app1 ts te z sz by' hT hinfo hzc (by omega) s x ho base v ps.length hdrs W hs hO.o gb c hx (Value.int .u8 p.k.toNat :: nv :: tail) (by simp; omega) hnews (fun u hu => ?_) hlen hby hb fun v' w' h2 h3 h5 => h v' w' ⟨_, by rw [List.length_append]; exact h2, fun i y hi => ?_⟩ h3 h5
  · rcases List.mem_cons.1 hu with rfl | hu
    · rfl
    · rcases List.mem_cons.1 hu with rfl | hu
      · exact hnv1
      · obtain ⟨b, rfl⟩ := h1 u hu
        rfl
  · have keep : ∀ (k : Nat), k < W.heap.size → v.ownBlock ≠ some k → v'.ownBlock ≠ some k := by
      intro k hk hne he
      rcases h5 with h5 | h5
      · exact hne (h5 ▸ he)
      · rw [h5] at he
        have := Option.some.inj he
        omega
    rcases Nat.lt_or_ge i ps.length with hil | hil
    · rw [List.getElem?_append_left hil] at hi
      obtain ⟨nv', k1, k2, k3, k4, k5⟩ := hO.r i y hi
      have hb1 : i * sz + sz ≤ ps.length * sz := by rw [← Nat.succ_mul]; exact Nat.mul_le_mul_right sz hil
      refine ⟨nv', by rw [List.getElem?_append_left (by omega)]; exact k1, by rw [List.getElem?_append_left (by omega)]; exact k2, k3.grown h3 (fun k hk e => (k4 k hk).1 e), fun k hk => ⟨keep k (k3.blk k hk) (k4 k hk).1, (k4 k hk).2⟩, fun j j2 j3 => by rw [List.getElem?_append_left (by omega)]; exact k5 j j2 j3⟩
    · have hi1 := (List.getElem?_eq_some_iff.1 hi).1
      rw [List.length_append] at hi1
      simp only [List.length_cons, List.length_nil] at hi1
      obtain rfl : i = ps.length := by omega
      rw [List.getElem?_append_right (Nat.le_refl _), Nat.sub_self] at hi
      obtain rfl : p = y := by simpa using hi
      refine ⟨nv, by rw [List.getElem?_append_right (by omega), hdl, Nat.sub_self]; rfl, by rw [List.getElem?_append_right (by omega), hdl, show ps.length * sz + 1 - ps.length * sz = 1 by omega]; rfl, hn.grown h3 (fun k hk e => (hnb k hk).1 e), fun k hk => ⟨keep k (hn.blk k hk) (hnb k hk).1, (hnb k hk).2⟩, fun j j2 j3 => by
        rw [List.getElem?_append_right (by omega), hdl, show ps.length * sz + j - ps.length * sz = (j - 2) + 2 by omega]
        have hjl : j - 2 < tail.length := by omega
        obtain ⟨b, hb⟩ := h1 _ (List.getElem_mem hjl)
        exact ⟨b, by rw [List.getElem?_cons_succ, List.getElem?_cons_succ, List.getElem?_eq_getElem hjl, hb]⟩⟩
theorem infoPc : (Tryz.prog.info? 90).map (fun i => (i.zero, i.size, i.bytes)) = some (some (.agg #[.int .u8 0, .slice none 0 0, .string ByteArray.empty]), 3, 48) := by kernel_rfl
theorem wpList_appP {ops : Array Oper} {rest : List Oper} {o : Oper} {a : Act} {Q : Exit → Act → World → Prop} (hgd : o.guard = none) (s x : Operand) (ho : o.op = .call { callee := .builtin .append, args := #[s, x], argTypes := #[84, 84] })
    (base : Nat) (v : Value) (ps : List Pc) (W : World) (hs : a.eval s = v) (hO : Pcs 90 3 base v ps W) (gb c : Nat) (hx : a.eval x = .slice (some ⟨gb, 0, none⟩) 1 c) (p : Pc) (nv : Value) (b : ByteArray)
    (h0 : W.cell? ⟨gb, 0, none⟩ = some (.int .u8 p.k.toNat)) (h1 : W.cell? ⟨gb, 1, none⟩ = some nv) (h2 : W.cell? ⟨gb, 2, none⟩ = some (.string b)) (hn : NumsAt W nv p.ns) (hnb : ∀ k, nv.ownBlock = some k → v.ownBlock ≠ some k ∧ base ≤ k)
    (hlen : ps.length + 1 < 4000000) (hb : base ≤ W.heap.size) (h : ∀ v' w', Pcs 90 3 base v' (ps ++ [p]) w' → W.grownBy w' v.ownBlock → (v'.ownBlock = v.ownBlock ∨ v'.ownBlock = some W.heap.size) → wpList Tryz.prog ops Q rest (a.put o.dst v') w') : wpList Tryz.prog ops Q (o :: rest) a W :=
  wpList_plain hgd fun _ hK => wp_appPc 84 90 _ 3 48 Tryz.underlying84 infoPc rfl (by decide) s x ho base v ps W hs hO gb c hx p nv [.string b] rfl
    (fun j u hj => by
      match j, hj with
      | 0, hj => simp at hj; subst hj; exact h0
      | 1, hj => simp at hj; subst hj; exact h1
      | 2, hj => simp at hj; subst hj; exact h2) (fun u hu => by simp only [List.mem_singleton] at hu; exact ⟨_, hu⟩) hn hnb hlen (by decide) hb fun v' w' k2 k3 k5 => hK _ _ (h v' w' k2 k3 k5)
theorem infoLPc : (Tryz.prog.info? 112).map (fun i => (i.zero, i.size, i.bytes)) = some (some (.agg #[.int .u8 0, .slice none 0 0]), 2, 32) := by kernel_rfl
theorem wpList_appL {ops : Array Oper} {rest : List Oper} {o : Oper} {a : Act} {Q : Exit → Act → World → Prop} (hgd : o.guard = none) (s x : Operand) (ho : o.op = .call { callee := .builtin .append, args := #[s, x], argTypes := #[107, 107] })
    (base : Nat) (v : Value) (ps : List Pc) (W : World) (hs : a.eval s = v) (hO : Pcs 112 2 base v ps W) (gb c : Nat) (hx : a.eval x = .slice (some ⟨gb, 0, none⟩) 1 c) (p : Pc) (nv : Value)
    (h0 : W.cell? ⟨gb, 0, none⟩ = some (.int .u8 p.k.toNat)) (h1 : W.cell? ⟨gb, 1, none⟩ = some nv) (hn : NumsAt W nv p.ns) (hnb : ∀ k, nv.ownBlock = some k → v.ownBlock ≠ some k ∧ base ≤ k)
    (hlen : ps.length + 1 < 4000000) (hb : base ≤ W.heap.size) (h : ∀ v' w', Pcs 112 2 base v' (ps ++ [p]) w' → W.grownBy w' v.ownBlock → (v'.ownBlock = v.ownBlock ∨ v'.ownBlock = some W.heap.size) → wpList Tryz.prog ops Q rest (a.put o.dst v') w') : wpList Tryz.prog ops Q (o :: rest) a W :=
  wpList_plain hgd fun _ hK => wp_appPc 107 112 _ 2 32 Tryz.underlying107 infoLPc rfl (by decide) s x ho base v ps W hs hO gb c hx p nv [] rfl
    (fun j u hj => by
      match j, hj with
      | 0, hj => simp at hj; subst hj; exact h0
      | 1, hj => simp at hj; subst hj; exact h1) (fun u hu => by cases hu) hn hnb hlen (by decide) hb fun v' w' k2 k3 k5 => hK _ _ (h v' w' k2 k3 k5)
end
section
open Go.RowKit
attribute [local go_sem ↓] Go.wp_at_zero Go.wp_at_succ
/-- The cells of a piece. -/
def pcc (k : Int) (v : Value) (s : ByteArray) : Array Value := #[.int .u8 k, v, .string s]
theorem blk_pc {W : World} {b : Nat} {k : Int} {v : Value} {s : ByteArray} {ty : TypeId} (h : Blk W b (pcc k v s) ty) : (W.cell? ⟨b, 0, none⟩ = some (.int .u8 k) ∧ W.cell? ⟨b, 1, none⟩ = some v ∧ W.cell? ⟨b, 2, none⟩ = some (.string s)) ∧ W.frozen? ⟨b, 0, none⟩ = false ∧ W.frozen? ⟨b, 1, none⟩ = false ∧ W.frozen? ⟨b, 2, none⟩ = false := by
  refine ⟨⟨?_, ?_, ?_⟩, ?_, ?_, ?_⟩ <;> simp [World.cell?, World.frozen?, h, pcc]
theorem blk_set1 {W : World} {b : Nat} {k : Int} {v : Value} {s : ByteArray} {ty : TypeId} (h : Blk W b (pcc k v s) ty) (u : Value) : Blk (W.setCell ⟨b, 1, none⟩ u) b (pcc k u s) ty := by
  simp [Blk, World.setCell, Array.getElem?_modify, h, pcc]
/-- What the loop over the words of a piece keeps. -/
structure RP (w : World) (s : ByteArray) (c : UInt8) (ws : List (List UInt8)) (v : Value) (ns : List Int) (W : World) : Prop where
  B : Below w.heap.size w W
  r : Blk W w.heap.size (pcc 0 (.slice none 0 0) ⟨#[]⟩) 90
  p : Blk W (w.heap.size + 1) (pcc c.toNat v s) 90
  n : OwI (w.heap.size + 3) v ns W
  t : Blk W (w.heap.size + 2) (ws.map fun l => Value.string ⟨l.toArray⟩).toArray 9
section
variable {w W W' : World} {s : ByteArray} {c : UInt8} {ws : List (List UInt8)} {v : Value} {ns : List Int}
theorem RP.below (h : RP w s c ws v ns W) (hb : Below W.heap.size W W') : RP w s c ws v ns W' :=
  ⟨bstep h.B hb h.B.size, (hb.block _ (blk_lt h.r)).trans h.r, (hb.block _ (blk_lt h.p)).trans h.p, h.n.below hb, (hb.block _ (blk_lt h.t)).trans h.t⟩
theorem RP.word (h : RP w s c ws v ns W) {k : Nat} {l : List UInt8} (hk : ws[k]? = some l) : W.cell? ⟨w.heap.size + 2, k, none⟩ = some (.string ⟨l.toArray⟩) := by
  rw [cell_of_row W _ k _ _ _ h.t]
  simp [hk]
theorem RP.grown (h : RP w s c ws v ns W) (hg : W.grownBy W' v.ownBlock) {v' : Value} {ns' : List Int} (hn : OwI (w.heap.size + 3) v' ns' W') : RP w s c ws v' ns' (W'.setCell ⟨w.heap.size + 1, 1, none⟩ v') := by
  have hlt := h.n.lt
  have hz := h.B.size
  have keep : ∀ b, b < w.heap.size + 3 → b < W.heap.size → W'.heap[b]? = W.heap[b]? := fun b h1 h2 => hg.block b h2 (fun e => by have := (hlt b e.symm).1; omega)
  have r' := (keep _ (by omega) (blk_lt h.r)).trans h.r
  have p' := (keep _ (by omega) (blk_lt h.p)).trans h.p
  have t' := (keep _ (by omega) (blk_lt h.t)).trans h.t
  refine ⟨?_, (Below.heap_setCell _ _ _ _ (by simp)).trans r', blk_set1 p' v', ?_, (Below.heap_setCell _ _ _ _ (by simp)).trans t'⟩
  · have h1 : Below w.heap.size w W' := Below.grown h.B hg h.B.size (fun k e => by have := (hlt k e).1; omega)
    exact h1.setCell (by simp) _
  · exact hn.far (fun k e => by have := (hn.lt k e).1; simp; omega) _
end
theorem mem_sum : ∀ {ws : List (List UInt8)} {l : List UInt8}, l ∈ ws → l.length ≤ (ws.map List.length).sum
  | w :: ws, l, h => by
    rw [List.map_cons, List.sum_cons]
    rcases List.mem_cons.1 h with rfl | h
    · omega
    · have := mem_sum h
      omega
theorem ext_tail {s : ByteArray} {c : UInt8} {r : List UInt8} (h : s.data.toList = c :: r) : (s.extract 1 s.size).data.toList = r := by
  have h2 : s.size = r.length + 1 := by rw [Lib.size_eq s, h]; rfl
  rw [ByteArray.data_extract, Array.toList_extract, h, h2]
  simp [List.extract]
theorem get_head {s : ByteArray} {c : UInt8} {r : List UInt8} (h : s.data.toList = c :: r) (h0 : 0 < s.size) : s[0]'h0 = c := by
  have : s.data[0]'h0 = c := by
    have h3 : s.data.toList[0]? = some c := by rw [h]; rfl
    rw [Array.getElem?_toList, Array.getElem?_eq_getElem h0] at h3
    exact Option.some.inj h3
  exact this
theorem pc_fin {c : UInt8} {r : List UInt8} {ws : List (List UInt8)} {ns : List Int} {b : Bool} (h1 : cutL 58 r = ws) (h2 : allM numI ws = some ns) (h3 : pcOk c ns = b) : (pieceI (c :: r)).isSome = b ∧ ∀ x, pieceI (c :: r) = some x → x = ⟨c, ns⟩ := by
  rw [pieceI, h1, h2, Option.bind_some, h3]
  cases b
  · exact ⟨rfl, fun x h => by cases h⟩
  · exact ⟨rfl, fun x h => (Option.some.inj h).symm⟩
theorem pc_len3 {ns : List Int} (h : ¬ ns.length = 3) : pcOk 119 ns = false := by
  match ns, h with
  | [], _ => rfl
  | [_], _ => rfl
  | [p, q], _ => rfl
  | [_, _, _], h => exact absurd rfl h
  | _ :: _ :: _ :: _ :: _, _ => rfl
theorem pc_len2 {c : UInt8} {ns : List Int} (hc : ¬ c = 119) (h : ¬ ns.length = 2) : pcOk c ns = false := by
  match ns, h with
  | [], _ => rfl
  | [_], _ => rfl
  | [p, q], h => exact absurd rfl h
  | [p, q, n], _ =>
    show (if c = 119 then dirOk p q && inB n 0 3 else false) = false
    rw [if_neg hc]
  | _ :: _ :: _ :: _ :: _, _ => rfl
theorem u8_ne {c k : UInt8} (h : ¬ c = k) : ((c.toNat : Int) == (k.toNat : Int)) = false := by
  rw [beq_eq_false_iff_ne]
  intro e
  exact h (UInt8.toNat_inj.1 (by omega))
theorem far3 {W : World} {g b o : Nat} {x y z : Value} (h : b ≠ g) : (((W.setCell ⟨g, 0, none⟩ x).setCell ⟨g, 1, none⟩ y).setCell ⟨g, 2, none⟩ z).cell? ⟨b, o, none⟩ = W.cell? ⟨b, o, none⟩ :=
  World.cell?_of_block ((Below.heap_setCell _ _ _ b h).trans ((Below.heap_setCell _ _ _ b h).trans (Below.heap_setCell _ _ _ b h)))
theorem NumsAt.far {w : World} {v : Value} {ns : List Int} (h : NumsAt w v ns) {p : Addr} (hp : ∀ k, v.ownBlock = some k → k ≠ p.block) (u : Value) : NumsAt (w.setCell p u) v ns := by
  obtain ⟨g, cap, rfl, h2, h3, h4, h5⟩ := h
  refine ⟨g, cap, rfl, h2, h3, by simpa using h4, fun j n hj => ?_⟩
  rw [World.cell?_of_block (Below.heap_setCell w p u g (hp g rfl))]
  exact h5 j n hj
theorem NumsAt.drew {w : World} {v : Value} {ns : List Int} (h : NumsAt w v ns) : NumsAt w.drew v ns := h
theorem NumsAt.drewN {w : World} {v : Value} {ns : List Int} (h : NumsAt w v ns) (n : Nat) : NumsAt (w.drewN n) v ns := h
theorem direction_o (p q : Int) (told : Bool) (w : World) (h : Hid (dirOk p q = told)) : Calls Tryz.prog 136 #[.int .i64 p, .int .i64 q] w fun e w' => ∃ cc ss : Fr, e = .returned (.tuple #[frv cc, frv ss, .bool told]) ∧ Below w.heap.size w w' := by
  cases told
  · exact (direction_f p q w h.out).mono fun e w' ⟨h1, h2⟩ => ⟨_, _, h1, h2⟩
  · exact (direction_t p q w h.out).mono fun e w' ⟨h1, h2⟩ => ⟨_, _, h1, h2⟩
/-- The letter and the numbers of a piece, to be read in a later world. -/
def CP (pb g cap : Nat) (c : UInt8) (s : ByteArray) (n0 n1 : Int) (len : Nat) (w' : World) : Prop := w'.cell? ⟨pb, 0, none⟩ = some (.int .u8 c.toNat) ∧ w'.cell? ⟨pb, 1, none⟩ = some (.slice (some ⟨g, 0, none⟩) len cap) ∧ w'.cell? ⟨pb, 2, none⟩ = some (.string s) ∧ w'.cell? ⟨g, 0, none⟩ = some (.int .i64 n0) ∧ w'.cell? ⟨g, 1, none⟩ = some (.int .i64 n1)
theorem CP.of {pb g cap : Nat} {c : UInt8} {s : ByteArray} {n0 n1 : Int} {len : Nat} {w W : World} (h : CP pb g cap c s n0 n1 len w) (h1 : pb < w.heap.size) (h2 : g < w.heap.size) (hb : Below w.heap.size w W) : CP pb g cap c s n0 n1 len W :=
  ⟨(hb.cell (p := ⟨_, _, _⟩) h1).trans h.1, (hb.cell (p := ⟨_, _, _⟩) h1).trans h.2.1, (hb.cell (p := ⟨_, _, _⟩) h1).trans h.2.2.1, (hb.cell (p := ⟨_, _, _⟩) h2).trans h.2.2.2.1, (hb.cell (p := ⟨_, _, _⟩) h2).trans h.2.2.2.2⟩
set_option maxHeartbeats 4000000 in
theorem readPiece_nil (w : World) :
    Calls Tryz.prog 108 #[.string ⟨#[]⟩] w fun e w' => e = .returned (.tuple #[.agg #[.int .u8 0, .slice none 0 0, .string ⟨#[]⟩], .bool false]) ∧ Below w.heap.size w w' := by
  go_enter Tryz.func108, Tryz.ntmps108
  go_wp2
  exact bodyPost_ret (v := .tuple #[.agg #[.int .u8 0, .slice none 0 0, .string ⟨#[]⟩], .bool false]) (by simp [results, Tryz.results108, go_sem, *]) rfl ⟨rfl, by exact below_⟩
set_option maxHeartbeats 40000000 in
theorem readPiece_cons (s : ByteArray) (c : UInt8) (r : List UInt8) (hl : s.data.toList = c :: r) (w : World) (hs : s.size ≤ 1048576) (hG : GL w) :
    Calls Tryz.prog 108 #[.string s] w fun e w' => ∃ kk A len cap b, e = .returned (.tuple #[.agg #[.int .u8 kk, .slice A len cap, .string b], .bool (pieceI (c :: r)).isSome]) ∧
      (∀ x, pieceI (c :: r) = some x → kk = x.k.toNat ∧ NumsAt w' (.slice A len cap) x.ns ∧ ∀ k, (Value.slice A len cap).ownBlock = some k → w.heap.size ≤ k) ∧ Below w.heap.size w w' := by
  have hsz : s.size = r.length + 1 := by rw [Lib.size_eq s, hl]; rfl
  have hne : s.toList.isEmpty = false := by rw [ByteArray.toList_eq, hl]; rfl
  have h0 := get_head hl (by omega)
  have ht := ext_tail hl
  obtain ⟨ws, hws⟩ : ∃ ws, cutL 58 r = ws := ⟨_, rfl⟩
  have hwl := cutL_len 58 r
  rw [hws] at hwl
  have hcell : ∀ W, GL W → Calls Tryz.prog 107 #[.string (s.extract 1 (r.length + 1)), .string ⟨#[58]⟩] W fun e w' => e = .returned (.slice (some ⟨W.heap.size, 0, none⟩) ws.length ws.length) ∧ w' = W.alloc (.cells (ws.map fun l => Value.string ⟨l.toArray⟩).toArray 9) := fun W hW => by
    have := split_c (s.extract 1 s.size) 58 W (by rw [ByteArray.size_extract]; omega) hW
    rw [ht, hws, hsz] at this
    exact this
  obtain ⟨W0, hW0, hR⟩ : ∃ W, W = (w.alloc (.cells #[.int .u8 0, .slice none 0 0, .string ⟨#[]⟩] 90)).alloc (.cells #[.int .u8 c.toNat, .slice none 0 0, .string s] 90) ∧ RP w s c ws (.slice none 0 0) [] (W.alloc (.cells (ws.map fun l => Value.string ⟨l.toArray⟩).toArray 9)) := by
    refine ⟨_, rfl, by exact below_, ?_, ?_, OwI.nil _ _, ?_⟩
    · exact (Below.heap_alloc _ _ _ (by simp; omega)).trans ((Below.heap_alloc _ _ _ (by simp)).trans (heap_alloc_last w _))
    · refine (Below.heap_alloc _ _ _ (by simp)).trans ?_
      have := heap_alloc_last (w.alloc (.cells #[.int .u8 0, .slice none 0 0, .string ⟨#[]⟩] 90)) (.cells #[.int .u8 c.toNat, .slice none 0 0, .string s] 90)
      rwa [World.size_alloc] at this
    · have := heap_alloc_last ((w.alloc (.cells #[.int .u8 0, .slice none 0 0, .string ⟨#[]⟩] 90)).alloc (.cells #[.int .u8 c.toNat, .slice none 0 0, .string s] 90)) (.cells (ws.map fun l => Value.string ⟨l.toArray⟩).toArray 9)
      rwa [World.size_alloc, World.size_alloc] at this
  have hz0 : W0.heap.size = w.heap.size + 1 + 1 := by rw [hW0]; simp
  have hG0 : GL W0 := by rw [hW0]; exact hG.below (by exact below_)
  have HS := Lib.hid hl
  have HW := Lib.hid hws
  have HL := Lib.hid hwl
  have H0 := Lib.hid h0
  clear hl hws hwl ht
  go_enter Tryz.func108, Tryz.ntmps108
  go_upto_region 5 with fail
  rw [← hW0]
  clear hW0 H0 h0
  go_upto_region 6 with (go_at_call 107; (with_reducible refine (hcell _ hG0).mono ?_); rintro e w1 ⟨rfl, rfl⟩; rw [hz0])
  clear hz0 hG0 hcell
  go_loopw [25] (fun i wr => ∃ (k : Nat) (v : Value) (ns : List Int), k ≤ ws.length ∧ i = .int .i64 k ∧ Hid (allM numI (ws.take k) = some ns ∧ ns.length = k) ∧ RP w s c ws v ns wr) (fun i _ => ws.length - (intOf i).toNat)
  case atStart => exact ⟨0, _, [], Nat.zero_le _, rfl, Lib.hid ⟨rfl, rfl⟩, hR⟩
  case round =>
    clear hR
    obtain ⟨k, v, ns, hk, rfl, hall, hR⟩ := hrel
    have hzw := hR.B.size
    by_cases hkl : k < ws.length
    · obtain ⟨l, hl⟩ : ∃ l, ws[k]? = some l := ⟨_, List.getElem?_eq_getElem hkl⟩
      have hwc := hR.word hl
      have hll : l.length ≤ 1048576 := by
        have h1 : l.length ≤ (ws.map List.length).sum := mem_sum (List.mem_of_getElem? hl)
        have h2 := HL.out
        omega
      obtain ⟨ok, hok⟩ : ∃ ok, (numI l).isSome = ok := ⟨_, rfl⟩
      have HOK := Lib.hid hok
      have HK := Lib.hid hl
      have hki : (k : Int) < ws.length := by omega
      clear hok hl
      go_upto_region 9 with (go_at_call 135; (with_reducible refine (plain_l l ok _ (by omega) (hG.below hR.B) HOK).mono ?_); rintro e w2 ⟨n, rfl, hn, hb⟩)
      have hR2 := hR.below hb
      clear hb hR hwc
      obtain ⟨⟨p0, p1, p2⟩, f0, f1, f2⟩ := blk_pc hR2.p
      obtain ⟨⟨r0, r1, r2⟩, g0, g1, g2⟩ := blk_pc hR2.r
      obtain ⟨A, cap, rfl⟩ := hR2.n.slice
      cases ok
      · have he : pieceI (c :: r) = none := by
          rw [pieceI, HW.out, allM_none HK.out (by have := HOK.out; simpa using this)]
          rfl
        have HE := Lib.hid he
        have hBq := hR2.B
        clear he hR2
        go_wp2
        exact bodyPost_ret (v := .tuple #[.agg #[.int .u8 c.toNat, .slice A ns.length cap, .string s], .bool false]) (by simp [results, Tryz.results108, go_sem, *]) rfl ⟨_, _, _, _, _, by rw [HE.out]; rfl, fun x h => (by rw [HE.out] at h; cases h), by exact below_⟩
      · have hnl := hall.out.2
        have hbz : w.heap.size + 3 ≤ (w2.alloc (.cells #[.int .i64 n] 3)).heap.size := by have := blk_lt hR2.t; simp; omega
        have hnn : numI l = some n := by
          obtain ⟨m, hm⟩ := Option.isSome_iff_exists.1 HOK.out
          rw [hn.out m hm, hm]
        have HN := Lib.hid hnn
        have hlen : ns.length + 1 < 4000000 := by have := HL.out; omega
        have HNL := Lib.hid hnl
        clear hnn hnl
        go_wp2_with (at_builtin; refine wpList_appI rfl (.tmp 38) (.tmp 40) rfl (w.heap.size + 3) _ ns _ (by rfl) (hR2.n.below ((Below.refl _ _).alloc (Nat.le_refl _) _)) w2.heap.size 1 n (by rfl) (World.cell?_alloc_at _ _ _ _ rfl) hlen hbz ?_; intro v2 w3 hO3 hg3; refine Hid.out ?_)
        refine Lib.hid ?_
        have hR3 := (hR2.below ((Below.refl _ _).alloc (Nat.le_refl _) (.cells #[.int .i64 n] 3))).grown hg3 hO3
        have hG3 : w2.grownBy w3 (Value.slice A ns.length cap).ownBlock := (World.grownBy_alloc _ _ _).trans hg3
        have hkeep : w3.heap[w.heap.size + 1]? = w2.heap[w.heap.size + 1]? := hG3.block _ (blk_lt hR2.p) (fun e => by have := (hR2.n.lt _ e.symm).1; omega)
        obtain ⟨⟨q0, q1, q2⟩, h0, h1, h2⟩ := blk_pc (W := w3) (hkeep.trans hR2.p)
        obtain ⟨A2, cap2, e2⟩ := hO3.slice
        subst e2
        rw [List.length_append] at hR3 hO3
        have hkb : (k : Int) + 1 ≤ 9223372036854775807 := by have := HL.out; omega
        clear hO3 hg3 hG3 hkeep hR2 p0 p1 p2 f0 f1 f2 r0 r1 r2 g0 g1 g2 hbz
        go_wp2
        go_roundw
        case rel => exact ⟨k + 1, _, ns ++ [n], by omega, by go_num, Lib.hid ⟨allM_take hall.out.1 HK.out HN.out, by rw [List.length_append, HNL.out]; rfl⟩, hR3⟩
        case measure => simp [intOf]; omega
    · obtain rfl : k = ws.length := by omega
      rw [List.take_length] at hall
      obtain ⟨hall, hnl⟩ := hall.out
      have HA := Lib.hid hall
      clear hall
      by_cases h3 : c = 119
      · subst h3
        by_cases hn3 : ns.length = 3
        · obtain ⟨n0, n1, n2, rfl⟩ : ∃ n0 n1 n2, ns = [n0, n1, n2] := by
            match ns, hn3 with
            | [a, b, d], _ => exact ⟨a, b, d, rfl⟩
          obtain ⟨g, cap, rfl, hcap, hcapm, hgb, hgl, hgc⟩ := hR.n.at (by simp)
          have hC : CP (w.heap.size + 1) g cap 119 s n0 n1 3 wr := by
            obtain ⟨⟨p0, p1, p2⟩, -⟩ := blk_pc hR.p
            exact ⟨p0, p1, p2, hgc 0 n0 rfl, hgc 1 n1 rfl⟩
          have hc2 := hgc 2 n2 rfl
          have hpl := blk_lt hR.p
          obtain ⟨told, htold⟩ : ∃ t, dirOk n0 n1 = t := ⟨_, rfl⟩
          have HT := Lib.hid htold
          clear htold
          obtain ⟨p0, p1, p2, d0, d1⟩ := hC
          have hC : CP (w.heap.size + 1) g cap 119 s n0 n1 3 wr := ⟨p0, p1, p2, d0, d1⟩
          go_upto_region 18 with fail
          go_cut [12, 10, 11] from 53 to 65 (fun s12 _ _ wx => s12 = .bool told ∧ Below wr.heap.size wr wx)
          case first =>
            go_region_held3 (fun w' => w'.cell? ⟨w.heap.size + 1, 0, none⟩ = some (.int .u8 ((119 : UInt8)).toNat) ∧ w'.cell? ⟨w.heap.size + 1, 1, none⟩ = some (.slice (some ⟨g, 0, none⟩) 3 cap) ∧ w'.cell? ⟨w.heap.size + 1, 2, none⟩ = some (.string s) ∧ w'.cell? ⟨g, 0, none⟩ = some (.int .i64 n0) ∧ w'.cell? ⟨g, 1, none⟩ = some (.int .i64 n1)) ((refine hC.of hpl hgl ?_; (repeat' (first | (with_reducible exact Below.refl _ _) | (with_reducible assumption) | (with_reducible refine Below.setCell ?_ (by first | omega | (simp; done) | (simp; omega)) _) | (with_reducible refine Below.alloc ?_ (by first | omega | (simp; done) | (simp; omega)) _) | (with_reducible refine below_drewN ?_ _) | (with_reducible refine Below.drew ?_))))) (first | (go_at_call 136; (with_reducible refine (direction_o n0 n1 told _ HT).mono ?_); rintro e w1 ⟨cc, ss, rfl, hb⟩; obtain ⟨hc, hf⟩ := bf hb (wr.heap.size) side_; have hs := hb.size; (try simp only [World.size_alloc, World.size_setCell, World.size_drew, World.heap_drewN] at hs); have hl : wr.heap.size ≤ w1.heap.size := (by omega); obtain ⟨B, hBe, hBl, hc2, hf2⟩ := bfA hb; (try simp only [World.size_alloc, World.size_setCell, World.size_drew, World.heap_drewN] at hBe); have hB : Below wr.heap.size wr w1 := bstep (by exact below_) hb side_; clear hs hb))
            all_goals (go_wp2; go_meet; exact ⟨rfl, by exact below_⟩)
          obtain ⟨rfl, hB⟩ := hcut
          have hR2 := hR.below hB
          have hnm := NumsAt.of hR2.n (by simp)
          have hBw := hR2.B
          have e0 : wc.cell? ⟨g, 0, none⟩ = some (.int .i64 n0) := (hB.cell (p := ⟨_, _, _⟩) hgl).trans d0
          have e1 : wc.cell? ⟨g, 1, none⟩ = some (.int .i64 n1) := (hB.cell (p := ⟨_, _, _⟩) hgl).trans d1
          have e2 : wc.cell? ⟨g, 2, none⟩ = some (.int .i64 n2) := (hB.cell (p := ⟨_, _, _⟩) hgl).trans hc2
          clear p0 p1 p2 d0 d1
          obtain ⟨⟨p0, p1, p2⟩, f0, f1, f2⟩ := blk_pc hR2.p
          obtain ⟨⟨r0, r1, r2⟩, g0, g1, g2⟩ := blk_pc hR2.r
          have hgz : ∀ k, (Value.slice (some ⟨g, 0, none⟩) 3 cap).ownBlock = some k → w.heap.size + 3 ≤ k := fun k hk => by
            obtain rfl : g = k := Option.some.inj hk
            exact hgb
          have hzz : w.heap.size < wc.heap.size := blk_lt hR2.r
          have hnm : NumsAt wc (.slice (some ⟨g, 0, none⟩) 3 cap) [n0, n1, n2] := hnm
          have p1 : wc.cell? ⟨w.heap.size + 1, 1, none⟩ = some (.slice (some ⟨g, 0, none⟩) 3 cap) := p1
          clear hR2 hB hC hR hgc hc2 hcap hcapm hpl hs hG hsz hne HL hzw hk hkl HS hall hnl hn3 f0 f1 f2
          cases told
          · skip
            obtain ⟨F1, F2⟩ := pc_fin HW.out HA.out (c := 119) (b := false) (by show (if (119 : UInt8) = 119 then dirOk n0 n1 && inB n2 0 3 else false) = _; rw [if_pos rfl, HT.out]; rfl)
            have HF := Lib.hid (And.intro F1 F2)
            clear F1 F2
            go_upto_region 24 with fail
            refine wp_region_noPanic ?_
            refine wp_region_held_drew (S := fun w' => w'.cell? ⟨w.heap.size + 1, 0, none⟩ = some (.int .u8 ((119 : UInt8)).toNat) ∧ w'.cell? ⟨w.heap.size + 1, 1, none⟩ = some (.slice (some ⟨g, 0, none⟩) 3 cap) ∧ w'.cell? ⟨w.heap.size + 1, 2, none⟩ = some (.string s) ∧ w'.cell? ⟨g, 0, none⟩ = some (.int .i64 n0) ∧ w'.cell? ⟨g, 1, none⟩ = some (.int .i64 n1) ∧ w'.cell? ⟨g, 2, none⟩ = some (.int .i64 n2)) (by kernel_rfl) ?_ (fun hHeld => ?_)
            · (try dsimp only)
              (first | exact hHeld | (exact ⟨(far3 (by omega)).trans p0, (far3 (by omega)).trans p1, (far3 (by omega)).trans p2, (far3 (by omega)).trans e0, (far3 (by omega)).trans e1, (far3 (by omega)).trans e2⟩) | (exact ⟨p0, p1, p2, e0, e1, e2⟩))
            refine wpAnyH_take (i := 0) (v := ?vq1) (by simp; rfl) (by kernel_rfl) (by kernel_rfl) (by kernel_rfl) (fun _ _ _ h => h) (Or.inl ⟨by rfl, ?yq1⟩) (by assumption) ?rq1
            case yq1 => (intro w' hSw; obtain ⟨s0, s1, s2, s3, s4, s5⟩ := hSw; (try dsimp only at s0 s1 s2 s3 s4 s5); go_simp; first | done | with_reducible rfl)
            (try simp only [Act.put, List.setIfInBounds_toArray, List.set_cons_zero, List.set_cons_succ])
            refine wpAnyH_take (i := 1) (v := ?vq2) (by simp; rfl) (by kernel_rfl) (by kernel_rfl) (by kernel_rfl) (fun _ _ _ h => h) (Or.inl ⟨by rfl, ?yq2⟩) (by assumption) ?rq2
            case yq2 => (intro w' hSw; obtain ⟨s0, s1, s2, s3, s4, s5⟩ := hSw; (try dsimp only at s0 s1 s2 s3 s4 s5); go_simp; first | done | with_reducible rfl)
            (try simp only [Act.put, List.setIfInBounds_toArray, List.set_cons_zero, List.set_cons_succ])
            refine wpAnyH_take (i := 2) (v := ?vq3) (by simp; rfl) (by kernel_rfl) (by kernel_rfl) (by kernel_rfl) (fun _ _ _ h => h) (Or.inl ⟨by rfl, ?yq3⟩) (by assumption) ?rq3
            case yq3 => (intro w' hSw; obtain ⟨s0, s1, s2, s3, s4, s5⟩ := hSw; (try dsimp only at s0 s1 s2 s3 s4 s5); go_simp; first | done | with_reducible rfl)
            (try simp only [Act.put, List.setIfInBounds_toArray, List.set_cons_zero, List.set_cons_succ])
            refine wpAnyH_take (i := 3) (v := undef) (by simp; rfl) (by kernel_rfl) (by kernel_rfl) (by kernel_rfl) (fun _ _ _ h => h) (Or.inr ⟨by rfl, rfl⟩) (by assumption) ?_
            (try simp only [Act.put, List.setIfInBounds_toArray, List.set_cons_zero, List.set_cons_succ])
            refine wpAnyH_take (i := 4) (v := undef) (by simp; rfl) (by kernel_rfl) (by kernel_rfl) (by kernel_rfl) (fun _ _ _ h => h) (Or.inr ⟨by rfl, rfl⟩) (by assumption) ?_
            (try simp only [Act.put, List.setIfInBounds_toArray, List.set_cons_zero, List.set_cons_succ])
            refine wpAnyH_take (i := 5) (v := undef) (by simp; rfl) (by kernel_rfl) (by kernel_rfl) (by kernel_rfl) (fun _ _ _ h => h) (Or.inr ⟨by rfl, rfl⟩) (by assumption) ?_
            (try simp only [Act.put, List.setIfInBounds_toArray, List.set_cons_zero, List.set_cons_succ])
            refine wpAnyH_take (i := 6) (v := undef) (by simp; rfl) (by kernel_rfl) (by kernel_rfl) (by kernel_rfl) (fun _ _ _ h => h) (Or.inr ⟨by rfl, rfl⟩) (by assumption) ?_
            (try simp only [Act.put, List.setIfInBounds_toArray, List.set_cons_zero, List.set_cons_succ])
            refine wpAnyH_take (i := 7) (v := undef) (by simp; rfl) (by kernel_rfl) (by kernel_rfl) (by kernel_rfl) (fun _ _ _ h => h) (Or.inr ⟨by rfl, rfl⟩) (by assumption) ?_
            (try simp only [Act.put, List.setIfInBounds_toArray, List.set_cons_zero, List.set_cons_succ])
            refine wpAnyH_take (i := 8) (v := ?vq9) (by simp; rfl) (by kernel_rfl) (by kernel_rfl) (by kernel_rfl) (fun _ _ _ h => h) (Or.inl ⟨by rfl, ?yq9⟩) (by assumption) ?rq9
            case yq9 => (intro w' hSw; obtain ⟨s0, s1, s2, s3, s4, s5⟩ := hSw; (try dsimp only at s0 s1 s2 s3 s4 s5); go_simp; first | done | with_reducible rfl)
            (try simp only [Act.put, List.setIfInBounds_toArray, List.set_cons_zero, List.set_cons_succ])
            refine wpAnyH_ready (rs := [9]) (by kernel_rfl) (by simp) ?_
            refine AllReadyH.cons (by simp; rfl) (fun K hK => ?_) AllReadyH.nil
            go_simp
            go_wp2
            refine hK.out _ _ ?_ (fun hHeld => ?_)
            · (try dsimp only)
              (first | exact hHeld | (exact ⟨(far3 (by omega)).trans p0, (far3 (by omega)).trans p1, (far3 (by omega)).trans p2, (far3 (by omega)).trans e0, (far3 (by omega)).trans e1, (far3 (by omega)).trans e2⟩) | (exact ⟨p0, p1, p2, e0, e1, e2⟩))
            clear hK K
            (try simp only [Act.put, List.setIfInBounds_toArray, List.set_cons_zero, List.set_cons_succ])
            refine wpAnyH_take (i := 10) (v := ?vq11) (by simp; rfl) (by kernel_rfl) (by kernel_rfl) (by kernel_rfl) (fun _ _ _ h => h) (Or.inl ⟨by rfl, ?yq11⟩) (by assumption) ?rq11
            case yq11 => (intro w' hSw; obtain ⟨s0, s1, s2, s3, s4, s5⟩ := hSw; (try dsimp only at s0 s1 s2 s3 s4 s5); go_simp; first | done | with_reducible rfl)
            (try simp only [Act.put, List.setIfInBounds_toArray, List.set_cons_zero, List.set_cons_succ])
            refine wpAnyH_done (by kernel_rfl) ?_ _
            refine NoPanic.normal ?_
            go_wp2
            all_goals exact bodyPost_ret (v := .tuple #[.agg #[.int .u8 119, .slice (some ⟨g, 0, none⟩) 3 cap, .string s], .bool (false)]) (by simp [results, Tryz.results108, go_sem, *]) rfl ⟨_, _, _, _, _, (by rw [HF.out.1]), (fun x hx => by
              obtain rfl := HF.out.2 x hx
              exact ⟨rfl, (by (repeat' (first | exact hnm | (refine NumsAt.far ?_ (fun k hk => by have := hgz k hk; simp; omega) _) | (apply NumsAt.drewN) | (apply NumsAt.drew)))), fun k hk => by have := hgz k hk; omega⟩), (by exact below_)⟩
          · skip
            obtain ⟨F1, F2⟩ := pc_fin HW.out HA.out (c := 119) (b := inB n2 0 3) (by show (if (119 : UInt8) = 119 then dirOk n0 n1 && inB n2 0 3 else false) = _; rw [if_pos rfl, HT.out, Bool.true_and])
            have HF := Lib.hid (And.intro F1 F2)
            clear F1 F2
            go_upto_region 24 with fail
            refine wp_region_noPanic ?_
            refine wp_region_held_drew (S := fun w' => w'.cell? ⟨w.heap.size + 1, 0, none⟩ = some (.int .u8 ((119 : UInt8)).toNat) ∧ w'.cell? ⟨w.heap.size + 1, 1, none⟩ = some (.slice (some ⟨g, 0, none⟩) 3 cap) ∧ w'.cell? ⟨w.heap.size + 1, 2, none⟩ = some (.string s) ∧ w'.cell? ⟨g, 0, none⟩ = some (.int .i64 n0) ∧ w'.cell? ⟨g, 1, none⟩ = some (.int .i64 n1) ∧ w'.cell? ⟨g, 2, none⟩ = some (.int .i64 n2)) (by kernel_rfl) ?_ (fun hHeld => ?_)
            · (try dsimp only)
              (first | exact hHeld | (exact ⟨(far3 (by omega)).trans p0, (far3 (by omega)).trans p1, (far3 (by omega)).trans p2, (far3 (by omega)).trans e0, (far3 (by omega)).trans e1, (far3 (by omega)).trans e2⟩) | (exact ⟨p0, p1, p2, e0, e1, e2⟩))
            refine wpAnyH_take (i := 0) (v := ?vq12) (by simp; rfl) (by kernel_rfl) (by kernel_rfl) (by kernel_rfl) (fun _ _ _ h => h) (Or.inl ⟨by rfl, ?yq12⟩) (by assumption) ?rq12
            case yq12 => (intro w' hSw; obtain ⟨s0, s1, s2, s3, s4, s5⟩ := hSw; (try dsimp only at s0 s1 s2 s3 s4 s5); go_simp; first | done | with_reducible rfl)
            (try simp only [Act.put, List.setIfInBounds_toArray, List.set_cons_zero, List.set_cons_succ])
            refine wpAnyH_take (i := 1) (v := ?vq13) (by simp; rfl) (by kernel_rfl) (by kernel_rfl) (by kernel_rfl) (fun _ _ _ h => h) (Or.inl ⟨by rfl, ?yq13⟩) (by assumption) ?rq13
            case yq13 => (intro w' hSw; obtain ⟨s0, s1, s2, s3, s4, s5⟩ := hSw; (try dsimp only at s0 s1 s2 s3 s4 s5); go_simp; first | done | with_reducible rfl)
            (try simp only [Act.put, List.setIfInBounds_toArray, List.set_cons_zero, List.set_cons_succ])
            refine wpAnyH_take (i := 2) (v := ?vq14) (by simp; rfl) (by kernel_rfl) (by kernel_rfl) (by kernel_rfl) (fun _ _ _ h => h) (Or.inl ⟨by rfl, ?yq14⟩) (by assumption) ?rq14
            case yq14 => (intro w' hSw; obtain ⟨s0, s1, s2, s3, s4, s5⟩ := hSw; (try dsimp only at s0 s1 s2 s3 s4 s5); go_simp; first | done | with_reducible rfl)
            (try simp only [Act.put, List.setIfInBounds_toArray, List.set_cons_zero, List.set_cons_succ])
            refine wpAnyH_take (i := 3) (v := ?vq15) (by simp; rfl) (by kernel_rfl) (by kernel_rfl) (by kernel_rfl) (fun _ _ _ h => h) (Or.inl ⟨by rfl, ?yq15⟩) (by assumption) ?rq15
            case yq15 => (intro w' hSw; obtain ⟨s0, s1, s2, s3, s4, s5⟩ := hSw; (try dsimp only at s0 s1 s2 s3 s4 s5); go_simp; first | done | with_reducible rfl)
            (try simp only [Act.put, List.setIfInBounds_toArray, List.set_cons_zero, List.set_cons_succ])
            refine wpAnyH_take (i := 4) (v := ?vq16) (by simp; rfl) (by kernel_rfl) (by kernel_rfl) (by kernel_rfl) (fun _ _ _ h => h) (Or.inl ⟨by rfl, ?yq16⟩) (by assumption) ?rq16
            case yq16 => (intro w' hSw; obtain ⟨s0, s1, s2, s3, s4, s5⟩ := hSw; (try dsimp only at s0 s1 s2 s3 s4 s5); go_simp; first | done | with_reducible rfl)
            (try simp only [Act.put, List.setIfInBounds_toArray, List.set_cons_zero, List.set_cons_succ])
            refine wpAnyH_take (i := 5) (v := ?vq17) (by simp; rfl) (by kernel_rfl) (by kernel_rfl) (by kernel_rfl) (fun _ _ _ h => h) (Or.inl ⟨by rfl, ?yq17⟩) (by assumption) ?rq17
            case yq17 => (intro w' hSw; obtain ⟨s0, s1, s2, s3, s4, s5⟩ := hSw; (try dsimp only at s0 s1 s2 s3 s4 s5); go_simp; first | done | with_reducible rfl)
            (try simp only [Act.put, List.setIfInBounds_toArray, List.set_cons_zero, List.set_cons_succ])
            refine wpAnyH_take (i := 6) (v := ?vq18) (by simp; rfl) (by kernel_rfl) (by kernel_rfl) (by kernel_rfl) (fun _ _ _ h => h) (Or.inl ⟨by rfl, ?yq18⟩) (by assumption) ?rq18
            case yq18 => (intro w' hSw; obtain ⟨s0, s1, s2, s3, s4, s5⟩ := hSw; (try dsimp only at s0 s1 s2 s3 s4 s5); go_simp; first | done | with_reducible rfl)
            (try simp only [Act.put, List.setIfInBounds_toArray, List.set_cons_zero, List.set_cons_succ])
            refine wpAnyH_ready (rs := [7]) (by kernel_rfl) (by simp) ?_
            refine AllReadyH.cons (by simp; rfl) (fun K hK => ?_) AllReadyH.nil
            go_simp
            (go_at_call 94; refine (within_any _ _ _ _).mono ?_; rintro e w1 ⟨rfl, rfl⟩)
            refine hK.out _ _ ?_ (fun hHeld => ?_)
            · (try dsimp only)
              (first | exact hHeld | (exact ⟨(far3 (by omega)).trans p0, (far3 (by omega)).trans p1, (far3 (by omega)).trans p2, (far3 (by omega)).trans e0, (far3 (by omega)).trans e1, (far3 (by omega)).trans e2⟩) | (exact ⟨p0, p1, p2, e0, e1, e2⟩))
            clear hK K
            (try simp only [Act.put, List.setIfInBounds_toArray, List.set_cons_zero, List.set_cons_succ])
            refine wpAnyH_take (i := 8) (v := ?vq20) (by simp; rfl) (by kernel_rfl) (by kernel_rfl) (by kernel_rfl) (fun _ _ _ h => h) (Or.inl ⟨by rfl, ?yq20⟩) (by assumption) ?rq20
            case yq20 => (intro w' hSw; obtain ⟨s0, s1, s2, s3, s4, s5⟩ := hSw; (try dsimp only at s0 s1 s2 s3 s4 s5); go_simp; first | done | with_reducible rfl)
            (try simp only [Act.put, List.setIfInBounds_toArray, List.set_cons_zero, List.set_cons_succ])
            refine wpAnyH_ready (rs := [9]) (by kernel_rfl) (by simp) ?_
            refine AllReadyH.cons (by simp; rfl) (fun K hK => ?_) AllReadyH.nil
            go_simp
            go_wp2
            refine hK.out _ _ ?_ (fun hHeld => ?_)
            · (try dsimp only)
              (first | exact hHeld | (exact ⟨(far3 (by omega)).trans p0, (far3 (by omega)).trans p1, (far3 (by omega)).trans p2, (far3 (by omega)).trans e0, (far3 (by omega)).trans e1, (far3 (by omega)).trans e2⟩) | (exact ⟨p0, p1, p2, e0, e1, e2⟩))
            clear hK K
            (try simp only [Act.put, List.setIfInBounds_toArray, List.set_cons_zero, List.set_cons_succ])
            refine wpAnyH_take (i := 10) (v := ?vq22) (by simp; rfl) (by kernel_rfl) (by kernel_rfl) (by kernel_rfl) (fun _ _ _ h => h) (Or.inl ⟨by rfl, ?yq22⟩) (by assumption) ?rq22
            case yq22 => (intro w' hSw; obtain ⟨s0, s1, s2, s3, s4, s5⟩ := hSw; (try dsimp only at s0 s1 s2 s3 s4 s5); go_simp; first | done | with_reducible rfl)
            (try simp only [Act.put, List.setIfInBounds_toArray, List.set_cons_zero, List.set_cons_succ])
            refine wpAnyH_done (by kernel_rfl) ?_ _
            refine NoPanic.normal ?_
            go_wp2
            all_goals exact bodyPost_ret (v := .tuple #[.agg #[.int .u8 119, .slice (some ⟨g, 0, none⟩) 3 cap, .string s], .bool (inB n2 0 3)]) (by simp [results, Tryz.results108, go_sem, *]) rfl ⟨_, _, _, _, _, (by rw [HF.out.1]), (fun x hx => by
              obtain rfl := HF.out.2 x hx
              exact ⟨rfl, (by (repeat' (first | exact hnm | (refine NumsAt.far ?_ (fun k hk => by have := hgz k hk; simp; omega) _) | (apply NumsAt.drewN) | (apply NumsAt.drew)))), fun k hk => by have := hgz k hk; omega⟩), (by exact below_)⟩
        · have hf : pcOk 119 ns = false := pc_len3 hn3
          obtain ⟨F1, F2⟩ := pc_fin HW.out HA.out (c := 119) (b := false) (by exact hf)
          have HF := Lib.hid (And.intro F1 F2)
          clear F1 F2
          have hw : 0 < ns.length := by have := cutL_ne 58 r; rw [HW.out] at this; have := List.length_pos_iff.2 this; omega
          obtain ⟨g, cap, rfl, hcap, hcapm, hgb, hgl, hgc⟩ := hR.n.at hw
          obtain ⟨⟨p0, p1, p2⟩, f0, f1, f2⟩ := blk_pc hR.p
          obtain ⟨⟨r0, r1, r2⟩, g0, g1, g2⟩ := blk_pc hR.r
          have hBw := hR.B
          clear hR hgc
          have hq : ((ns.length : Int) != 3) = true := by simp; omega
          go_wp2
          exact bodyPost_ret (v := .tuple #[.agg #[.int .u8 119, .slice (some ⟨g, 0, none⟩) ns.length cap, .string s], .bool false]) (by simp [results, Tryz.results108, go_sem, *]) rfl ⟨_, _, _, _, _, (by rw [HF.out.1]), (fun x hx => by have := HF.out.1; rw [hx] at this; cases this), (by exact below_)⟩
      · have hc9 : ((c.toNat : Int) == 119) = false := u8_ne h3
        by_cases hn3 : ns.length = 2
        · obtain ⟨n0, n1, rfl⟩ : ∃ n0 n1, ns = [n0, n1] := by
            match ns, hn3 with
            | [a, b], _ => exact ⟨a, b, rfl⟩
          obtain ⟨g, cap, rfl, hcap, hcapm, hgb, hgl, hgc⟩ := hR.n.at (by simp)
          have hC : CP (w.heap.size + 1) g cap c s n0 n1 2 wr := by
            obtain ⟨⟨p0, p1, p2⟩, -⟩ := blk_pc hR.p
            exact ⟨p0, p1, p2, hgc 0 n0 rfl, hgc 1 n1 rfl⟩
          have hpl := blk_lt hR.p
          obtain ⟨told, htold⟩ : ∃ t, dirOk n0 n1 = t := ⟨_, rfl⟩
          have HT := Lib.hid htold
          clear htold
          obtain ⟨p0, p1, p2, d0, d1⟩ := hC
          have hC : CP (w.heap.size + 1) g cap c s n0 n1 2 wr := ⟨p0, p1, p2, d0, d1⟩
          go_upto_region 18 with fail
          go_cut [12, 10, 11] from 53 to 65 (fun s12 _ _ wx => s12 = .bool told ∧ Below wr.heap.size wr wx)
          case first =>
            go_region_held3 (fun w' => w'.cell? ⟨w.heap.size + 1, 0, none⟩ = some (.int .u8 (c).toNat) ∧ w'.cell? ⟨w.heap.size + 1, 1, none⟩ = some (.slice (some ⟨g, 0, none⟩) 2 cap) ∧ w'.cell? ⟨w.heap.size + 1, 2, none⟩ = some (.string s) ∧ w'.cell? ⟨g, 0, none⟩ = some (.int .i64 n0) ∧ w'.cell? ⟨g, 1, none⟩ = some (.int .i64 n1)) ((refine hC.of hpl hgl ?_; (repeat' (first | (with_reducible exact Below.refl _ _) | (with_reducible assumption) | (with_reducible refine Below.setCell ?_ (by first | omega | (simp; done) | (simp; omega)) _) | (with_reducible refine Below.alloc ?_ (by first | omega | (simp; done) | (simp; omega)) _) | (with_reducible refine below_drewN ?_ _) | (with_reducible refine Below.drew ?_))))) (first | (go_at_call 136; (with_reducible refine (direction_o n0 n1 told _ HT).mono ?_); rintro e w1 ⟨cc, ss, rfl, hb⟩; obtain ⟨hc, hf⟩ := bf hb (wr.heap.size) side_; have hs := hb.size; (try simp only [World.size_alloc, World.size_setCell, World.size_drew, World.heap_drewN] at hs); have hl : wr.heap.size ≤ w1.heap.size := (by omega); obtain ⟨B, hBe, hBl, hc2, hf2⟩ := bfA hb; (try simp only [World.size_alloc, World.size_setCell, World.size_drew, World.heap_drewN] at hBe); have hB : Below wr.heap.size wr w1 := bstep (by exact below_) hb side_; clear hs hb))
            all_goals (go_wp2; go_meet; exact ⟨rfl, by exact below_⟩)
          obtain ⟨rfl, hB⟩ := hcut
          have hR2 := hR.below hB
          have hnm := NumsAt.of hR2.n (by simp)
          have hBw := hR2.B
          have e0 : wc.cell? ⟨g, 0, none⟩ = some (.int .i64 n0) := (hB.cell (p := ⟨_, _, _⟩) hgl).trans d0
          have e1 : wc.cell? ⟨g, 1, none⟩ = some (.int .i64 n1) := (hB.cell (p := ⟨_, _, _⟩) hgl).trans d1
          clear p0 p1 p2 d0 d1
          obtain ⟨⟨p0, p1, p2⟩, f0, f1, f2⟩ := blk_pc hR2.p
          obtain ⟨⟨r0, r1, r2⟩, g0, g1, g2⟩ := blk_pc hR2.r
          have hgz : ∀ k, (Value.slice (some ⟨g, 0, none⟩) 2 cap).ownBlock = some k → w.heap.size + 3 ≤ k := fun k hk => by
            obtain rfl : g = k := Option.some.inj hk
            exact hgb
          have hzz : w.heap.size < wc.heap.size := blk_lt hR2.r
          have hnm : NumsAt wc (.slice (some ⟨g, 0, none⟩) 2 cap) [n0, n1] := hnm
          have p1 : wc.cell? ⟨w.heap.size + 1, 1, none⟩ = some (.slice (some ⟨g, 0, none⟩) 2 cap) := p1
          clear hR2 hB hC hR hgc hcap hcapm hpl hs hG hsz hne HL hzw hk hkl HS hall hnl hn3 f0 f1 f2
          by_cases h114 : c = 114
          · subst h114
            obtain ⟨F1, F2⟩ := pc_fin HW.out HA.out (c := 114) (b := told) (by show (if (114 : UInt8) = 114 ∨ (114 : UInt8) = 102 then dirOk n0 n1 else if (114 : UInt8) = 97 ∨ (114 : UInt8) = 100 then inB n1 1 100 && inB n0 0 n1 else false) = _; rw [if_pos (.inl rfl), HT.out])
            have HF := Lib.hid (And.intro F1 F2)
            clear F1 F2
            go_wp2
            all_goals exact bodyPost_ret (v := .tuple #[.agg #[.int .u8 114, .slice (some ⟨g, 0, none⟩) 2 cap, .string s], .bool (told)]) (by simp [results, Tryz.results108, go_sem, *]) rfl ⟨_, _, _, _, _, (by rw [HF.out.1]), (fun x hx => by
              obtain rfl := HF.out.2 x hx
              exact ⟨rfl, (by (repeat' (first | exact hnm | (refine NumsAt.far ?_ (fun k hk => by have := hgz k hk; simp; omega) _) | (apply NumsAt.drewN) | (apply NumsAt.drew)))), fun k hk => by have := hgz k hk; omega⟩), (by exact below_)⟩
          by_cases h102 : c = 102
          · subst h102
            obtain ⟨F1, F2⟩ := pc_fin HW.out HA.out (c := 102) (b := told) (by show (if (102 : UInt8) = 114 ∨ (102 : UInt8) = 102 then dirOk n0 n1 else if (102 : UInt8) = 97 ∨ (102 : UInt8) = 100 then inB n1 1 100 && inB n0 0 n1 else false) = _; rw [if_pos (.inr rfl), HT.out])
            have HF := Lib.hid (And.intro F1 F2)
            clear F1 F2
            go_wp2
            all_goals exact bodyPost_ret (v := .tuple #[.agg #[.int .u8 102, .slice (some ⟨g, 0, none⟩) 2 cap, .string s], .bool (told)]) (by simp [results, Tryz.results108, go_sem, *]) rfl ⟨_, _, _, _, _, (by rw [HF.out.1]), (fun x hx => by
              obtain rfl := HF.out.2 x hx
              exact ⟨rfl, (by (repeat' (first | exact hnm | (refine NumsAt.far ?_ (fun k hk => by have := hgz k hk; simp; omega) _) | (apply NumsAt.drewN) | (apply NumsAt.drew)))), fun k hk => by have := hgz k hk; omega⟩), (by exact below_)⟩
          by_cases h97 : c = 97
          · subst h97
            cases hv : inB n1 1 100
            · skip
              obtain ⟨F1, F2⟩ := pc_fin HW.out HA.out (c := 97) (b := false) (by show (if (97 : UInt8) = 114 ∨ (97 : UInt8) = 102 then dirOk n0 n1 else if (97 : UInt8) = 97 ∨ (97 : UInt8) = 100 then inB n1 1 100 && inB n0 0 n1 else false) = _; rw [if_neg (by decide), if_pos (by decide), hv]; rfl)
              have HF := Lib.hid (And.intro F1 F2)
              clear F1 F2
              go_upto_region 27 with fail
              refine wp_region_noPanic ?_
              refine wp_region_held_drew (S := fun w' => w'.cell? ⟨w.heap.size + 1, 0, none⟩ = some (.int .u8 ((97 : UInt8)).toNat) ∧ w'.cell? ⟨w.heap.size + 1, 1, none⟩ = some (.slice (some ⟨g, 0, none⟩) 2 cap) ∧ w'.cell? ⟨w.heap.size + 1, 2, none⟩ = some (.string s) ∧ w'.cell? ⟨g, 0, none⟩ = some (.int .i64 n0) ∧ w'.cell? ⟨g, 1, none⟩ = some (.int .i64 n1) ∧ w'.cell? ⟨g, 1, none⟩ = some (.int .i64 n1)) (by kernel_rfl) ?_ (fun hHeld => ?_)
              · (try dsimp only)
                (first | exact hHeld | (exact ⟨(far3 (by omega)).trans p0, (far3 (by omega)).trans p1, (far3 (by omega)).trans p2, (far3 (by omega)).trans e0, (far3 (by omega)).trans e1, (far3 (by omega)).trans e1⟩) | (exact ⟨p0, p1, p2, e0, e1, e1⟩))
              refine wpAnyH_take (i := 0) (v := ?vq23) (by simp; rfl) (by kernel_rfl) (by kernel_rfl) (by kernel_rfl) (fun _ _ _ h => h) (Or.inl ⟨by rfl, ?yq23⟩) (by assumption) ?rq23
              case yq23 => (intro w' hSw; obtain ⟨s0, s1, s2, s3, s4, s5⟩ := hSw; (try dsimp only at s0 s1 s2 s3 s4 s5); go_simp; first | done | with_reducible rfl)
              (try simp only [Act.put, List.setIfInBounds_toArray, List.set_cons_zero, List.set_cons_succ])
              refine wpAnyH_take (i := 1) (v := ?vq24) (by simp; rfl) (by kernel_rfl) (by kernel_rfl) (by kernel_rfl) (fun _ _ _ h => h) (Or.inl ⟨by rfl, ?yq24⟩) (by assumption) ?rq24
              case yq24 => (intro w' hSw; obtain ⟨s0, s1, s2, s3, s4, s5⟩ := hSw; (try dsimp only at s0 s1 s2 s3 s4 s5); go_simp; first | done | with_reducible rfl)
              (try simp only [Act.put, List.setIfInBounds_toArray, List.set_cons_zero, List.set_cons_succ])
              refine wpAnyH_take (i := 2) (v := ?vq25) (by simp; rfl) (by kernel_rfl) (by kernel_rfl) (by kernel_rfl) (fun _ _ _ h => h) (Or.inl ⟨by rfl, ?yq25⟩) (by assumption) ?rq25
              case yq25 => (intro w' hSw; obtain ⟨s0, s1, s2, s3, s4, s5⟩ := hSw; (try dsimp only at s0 s1 s2 s3 s4 s5); go_simp; first | done | with_reducible rfl)
              (try simp only [Act.put, List.setIfInBounds_toArray, List.set_cons_zero, List.set_cons_succ])
              refine wpAnyH_take (i := 3) (v := ?vq26) (by simp; rfl) (by kernel_rfl) (by kernel_rfl) (by kernel_rfl) (fun _ _ _ h => h) (Or.inl ⟨by rfl, ?yq26⟩) (by assumption) ?rq26
              case yq26 => (intro w' hSw; obtain ⟨s0, s1, s2, s3, s4, s5⟩ := hSw; (try dsimp only at s0 s1 s2 s3 s4 s5); go_simp; first | done | with_reducible rfl)
              (try simp only [Act.put, List.setIfInBounds_toArray, List.set_cons_zero, List.set_cons_succ])
              refine wpAnyH_take (i := 4) (v := ?vq27) (by simp; rfl) (by kernel_rfl) (by kernel_rfl) (by kernel_rfl) (fun _ _ _ h => h) (Or.inl ⟨by rfl, ?yq27⟩) (by assumption) ?rq27
              case yq27 => (intro w' hSw; obtain ⟨s0, s1, s2, s3, s4, s5⟩ := hSw; (try dsimp only at s0 s1 s2 s3 s4 s5); go_simp; first | done | with_reducible rfl)
              (try simp only [Act.put, List.setIfInBounds_toArray, List.set_cons_zero, List.set_cons_succ])
              refine wpAnyH_ready (rs := [5]) (by kernel_rfl) (by simp) ?_
              refine AllReadyH.cons (by simp; rfl) (fun K hK => ?_) AllReadyH.nil
              go_simp
              (first | (go_at_call 94; refine (within_t _ _ _ _ (by assumption)).mono ?_; rintro e w1 ⟨rfl, rfl⟩) | (go_at_call 94; refine (within_f _ _ _ _ (by assumption)).mono ?_; rintro e w1 ⟨rfl, rfl⟩))
              refine hK.out _ _ ?_ (fun hHeld => ?_)
              · (try dsimp only)
                (first | exact hHeld | (exact ⟨(far3 (by omega)).trans p0, (far3 (by omega)).trans p1, (far3 (by omega)).trans p2, (far3 (by omega)).trans e0, (far3 (by omega)).trans e1, (far3 (by omega)).trans e1⟩) | (exact ⟨p0, p1, p2, e0, e1, e1⟩))
              clear hK K
              (try simp only [Act.put, List.setIfInBounds_toArray, List.set_cons_zero, List.set_cons_succ])
              refine wpAnyH_take (i := 6) (v := ?vq29) (by simp; rfl) (by kernel_rfl) (by kernel_rfl) (by kernel_rfl) (fun _ _ _ h => h) (Or.inl ⟨by rfl, ?yq29⟩) (by assumption) ?rq29
              case yq29 => (intro w' hSw; obtain ⟨s0, s1, s2, s3, s4, s5⟩ := hSw; (try dsimp only at s0 s1 s2 s3 s4 s5); go_simp; first | done | with_reducible rfl)
              (try simp only [Act.put, List.setIfInBounds_toArray, List.set_cons_zero, List.set_cons_succ])
              refine wpAnyH_take (i := 7) (v := undef) (by simp; rfl) (by kernel_rfl) (by kernel_rfl) (by kernel_rfl) (fun _ _ _ h => h) (Or.inr ⟨by rfl, rfl⟩) (by assumption) ?_
              (try simp only [Act.put, List.setIfInBounds_toArray, List.set_cons_zero, List.set_cons_succ])
              refine wpAnyH_take (i := 8) (v := undef) (by simp; rfl) (by kernel_rfl) (by kernel_rfl) (by kernel_rfl) (fun _ _ _ h => h) (Or.inr ⟨by rfl, rfl⟩) (by assumption) ?_
              (try simp only [Act.put, List.setIfInBounds_toArray, List.set_cons_zero, List.set_cons_succ])
              refine wpAnyH_take (i := 9) (v := undef) (by simp; rfl) (by kernel_rfl) (by kernel_rfl) (by kernel_rfl) (fun _ _ _ h => h) (Or.inr ⟨by rfl, rfl⟩) (by assumption) ?_
              (try simp only [Act.put, List.setIfInBounds_toArray, List.set_cons_zero, List.set_cons_succ])
              refine wpAnyH_take (i := 10) (v := undef) (by simp; rfl) (by kernel_rfl) (by kernel_rfl) (by kernel_rfl) (fun _ _ _ h => h) (Or.inr ⟨by rfl, rfl⟩) (by assumption) ?_
              (try simp only [Act.put, List.setIfInBounds_toArray, List.set_cons_zero, List.set_cons_succ])
              refine wpAnyH_take (i := 11) (v := undef) (by simp; rfl) (by kernel_rfl) (by kernel_rfl) (by kernel_rfl) (fun _ _ _ h => h) (Or.inr ⟨by rfl, rfl⟩) (by assumption) ?_
              (try simp only [Act.put, List.setIfInBounds_toArray, List.set_cons_zero, List.set_cons_succ])
              refine wpAnyH_take (i := 12) (v := undef) (by simp; rfl) (by kernel_rfl) (by kernel_rfl) (by kernel_rfl) (fun _ _ _ h => h) (Or.inr ⟨by rfl, rfl⟩) (by assumption) ?_
              (try simp only [Act.put, List.setIfInBounds_toArray, List.set_cons_zero, List.set_cons_succ])
              refine wpAnyH_take (i := 13) (v := undef) (by simp; rfl) (by kernel_rfl) (by kernel_rfl) (by kernel_rfl) (fun _ _ _ h => h) (Or.inr ⟨by rfl, rfl⟩) (by assumption) ?_
              (try simp only [Act.put, List.setIfInBounds_toArray, List.set_cons_zero, List.set_cons_succ])
              refine wpAnyH_take (i := 14) (v := undef) (by simp; rfl) (by kernel_rfl) (by kernel_rfl) (by kernel_rfl) (fun _ _ _ h => h) (Or.inr ⟨by rfl, rfl⟩) (by assumption) ?_
              (try simp only [Act.put, List.setIfInBounds_toArray, List.set_cons_zero, List.set_cons_succ])
              refine wpAnyH_take (i := 15) (v := undef) (by simp; rfl) (by kernel_rfl) (by kernel_rfl) (by kernel_rfl) (fun _ _ _ h => h) (Or.inr ⟨by rfl, rfl⟩) (by assumption) ?_
              (try simp only [Act.put, List.setIfInBounds_toArray, List.set_cons_zero, List.set_cons_succ])
              refine wpAnyH_take (i := 16) (v := ?vq39) (by simp; rfl) (by kernel_rfl) (by kernel_rfl) (by kernel_rfl) (fun _ _ _ h => h) (Or.inl ⟨by rfl, ?yq39⟩) (by assumption) ?rq39
              case yq39 => (intro w' hSw; obtain ⟨s0, s1, s2, s3, s4, s5⟩ := hSw; (try dsimp only at s0 s1 s2 s3 s4 s5); go_simp; first | done | with_reducible rfl)
              (try simp only [Act.put, List.setIfInBounds_toArray, List.set_cons_zero, List.set_cons_succ])
              refine wpAnyH_ready (rs := [17]) (by kernel_rfl) (by simp) ?_
              refine AllReadyH.cons (by simp; rfl) (fun K hK => ?_) AllReadyH.nil
              go_simp
              go_wp2
              refine hK.out _ _ ?_ (fun hHeld => ?_)
              · (try dsimp only)
                (first | exact hHeld | (exact ⟨(far3 (by omega)).trans p0, (far3 (by omega)).trans p1, (far3 (by omega)).trans p2, (far3 (by omega)).trans e0, (far3 (by omega)).trans e1, (far3 (by omega)).trans e1⟩) | (exact ⟨p0, p1, p2, e0, e1, e1⟩))
              clear hK K
              (try simp only [Act.put, List.setIfInBounds_toArray, List.set_cons_zero, List.set_cons_succ])
              refine wpAnyH_take (i := 18) (v := ?vq41) (by simp; rfl) (by kernel_rfl) (by kernel_rfl) (by kernel_rfl) (fun _ _ _ h => h) (Or.inl ⟨by rfl, ?yq41⟩) (by assumption) ?rq41
              case yq41 => (intro w' hSw; obtain ⟨s0, s1, s2, s3, s4, s5⟩ := hSw; (try dsimp only at s0 s1 s2 s3 s4 s5); go_simp; first | done | with_reducible rfl)
              (try simp only [Act.put, List.setIfInBounds_toArray, List.set_cons_zero, List.set_cons_succ])
              refine wpAnyH_done (by kernel_rfl) ?_ _
              refine NoPanic.normal ?_
              go_wp2
              all_goals exact bodyPost_ret (v := .tuple #[.agg #[.int .u8 97, .slice (some ⟨g, 0, none⟩) 2 cap, .string s], .bool (false)]) (by simp [results, Tryz.results108, go_sem, *]) rfl ⟨_, _, _, _, _, (by rw [HF.out.1]), (fun x hx => by
                obtain rfl := HF.out.2 x hx
                exact ⟨rfl, (by (repeat' (first | exact hnm | (refine NumsAt.far ?_ (fun k hk => by have := hgz k hk; simp; omega) _) | (apply NumsAt.drewN) | (apply NumsAt.drew)))), fun k hk => by have := hgz k hk; omega⟩), (by exact below_)⟩
            · skip
              obtain ⟨F1, F2⟩ := pc_fin HW.out HA.out (c := 97) (b := inB n0 0 n1) (by show (if (97 : UInt8) = 114 ∨ (97 : UInt8) = 102 then dirOk n0 n1 else if (97 : UInt8) = 97 ∨ (97 : UInt8) = 100 then inB n1 1 100 && inB n0 0 n1 else false) = _; rw [if_neg (by decide), if_pos (by decide), hv, Bool.true_and])
              have HF := Lib.hid (And.intro F1 F2)
              clear F1 F2
              go_upto_region 27 with fail
              refine wp_region_noPanic ?_
              refine wp_region_held_drew (S := fun w' => w'.cell? ⟨w.heap.size + 1, 0, none⟩ = some (.int .u8 ((97 : UInt8)).toNat) ∧ w'.cell? ⟨w.heap.size + 1, 1, none⟩ = some (.slice (some ⟨g, 0, none⟩) 2 cap) ∧ w'.cell? ⟨w.heap.size + 1, 2, none⟩ = some (.string s) ∧ w'.cell? ⟨g, 0, none⟩ = some (.int .i64 n0) ∧ w'.cell? ⟨g, 1, none⟩ = some (.int .i64 n1) ∧ w'.cell? ⟨g, 1, none⟩ = some (.int .i64 n1)) (by kernel_rfl) ?_ (fun hHeld => ?_)
              · (try dsimp only)
                (first | exact hHeld | (exact ⟨(far3 (by omega)).trans p0, (far3 (by omega)).trans p1, (far3 (by omega)).trans p2, (far3 (by omega)).trans e0, (far3 (by omega)).trans e1, (far3 (by omega)).trans e1⟩) | (exact ⟨p0, p1, p2, e0, e1, e1⟩))
              refine wpAnyH_take (i := 0) (v := ?vq42) (by simp; rfl) (by kernel_rfl) (by kernel_rfl) (by kernel_rfl) (fun _ _ _ h => h) (Or.inl ⟨by rfl, ?yq42⟩) (by assumption) ?rq42
              case yq42 => (intro w' hSw; obtain ⟨s0, s1, s2, s3, s4, s5⟩ := hSw; (try dsimp only at s0 s1 s2 s3 s4 s5); go_simp; first | done | with_reducible rfl)
              (try simp only [Act.put, List.setIfInBounds_toArray, List.set_cons_zero, List.set_cons_succ])
              refine wpAnyH_take (i := 1) (v := ?vq43) (by simp; rfl) (by kernel_rfl) (by kernel_rfl) (by kernel_rfl) (fun _ _ _ h => h) (Or.inl ⟨by rfl, ?yq43⟩) (by assumption) ?rq43
              case yq43 => (intro w' hSw; obtain ⟨s0, s1, s2, s3, s4, s5⟩ := hSw; (try dsimp only at s0 s1 s2 s3 s4 s5); go_simp; first | done | with_reducible rfl)
              (try simp only [Act.put, List.setIfInBounds_toArray, List.set_cons_zero, List.set_cons_succ])
              refine wpAnyH_take (i := 2) (v := ?vq44) (by simp; rfl) (by kernel_rfl) (by kernel_rfl) (by kernel_rfl) (fun _ _ _ h => h) (Or.inl ⟨by rfl, ?yq44⟩) (by assumption) ?rq44
              case yq44 => (intro w' hSw; obtain ⟨s0, s1, s2, s3, s4, s5⟩ := hSw; (try dsimp only at s0 s1 s2 s3 s4 s5); go_simp; first | done | with_reducible rfl)
              (try simp only [Act.put, List.setIfInBounds_toArray, List.set_cons_zero, List.set_cons_succ])
              refine wpAnyH_take (i := 3) (v := ?vq45) (by simp; rfl) (by kernel_rfl) (by kernel_rfl) (by kernel_rfl) (fun _ _ _ h => h) (Or.inl ⟨by rfl, ?yq45⟩) (by assumption) ?rq45
              case yq45 => (intro w' hSw; obtain ⟨s0, s1, s2, s3, s4, s5⟩ := hSw; (try dsimp only at s0 s1 s2 s3 s4 s5); go_simp; first | done | with_reducible rfl)
              (try simp only [Act.put, List.setIfInBounds_toArray, List.set_cons_zero, List.set_cons_succ])
              refine wpAnyH_take (i := 4) (v := ?vq46) (by simp; rfl) (by kernel_rfl) (by kernel_rfl) (by kernel_rfl) (fun _ _ _ h => h) (Or.inl ⟨by rfl, ?yq46⟩) (by assumption) ?rq46
              case yq46 => (intro w' hSw; obtain ⟨s0, s1, s2, s3, s4, s5⟩ := hSw; (try dsimp only at s0 s1 s2 s3 s4 s5); go_simp; first | done | with_reducible rfl)
              (try simp only [Act.put, List.setIfInBounds_toArray, List.set_cons_zero, List.set_cons_succ])
              refine wpAnyH_ready (rs := [5]) (by kernel_rfl) (by simp) ?_
              refine AllReadyH.cons (by simp; rfl) (fun K hK => ?_) AllReadyH.nil
              go_simp
              (first | (go_at_call 94; refine (within_t _ _ _ _ (by assumption)).mono ?_; rintro e w1 ⟨rfl, rfl⟩) | (go_at_call 94; refine (within_any _ _ _ _).mono ?_; rintro e w1 ⟨rfl, rfl⟩))
              refine hK.out _ _ ?_ (fun hHeld => ?_)
              · (try dsimp only)
                (first | exact hHeld | (exact ⟨(far3 (by omega)).trans p0, (far3 (by omega)).trans p1, (far3 (by omega)).trans p2, (far3 (by omega)).trans e0, (far3 (by omega)).trans e1, (far3 (by omega)).trans e1⟩) | (exact ⟨p0, p1, p2, e0, e1, e1⟩))
              clear hK K
              (try simp only [Act.put, List.setIfInBounds_toArray, List.set_cons_zero, List.set_cons_succ])
              refine wpAnyH_take (i := 6) (v := ?vq48) (by simp; rfl) (by kernel_rfl) (by kernel_rfl) (by kernel_rfl) (fun _ _ _ h => h) (Or.inl ⟨by rfl, ?yq48⟩) (by assumption) ?rq48
              case yq48 => (intro w' hSw; obtain ⟨s0, s1, s2, s3, s4, s5⟩ := hSw; (try dsimp only at s0 s1 s2 s3 s4 s5); go_simp; first | done | with_reducible rfl)
              (try simp only [Act.put, List.setIfInBounds_toArray, List.set_cons_zero, List.set_cons_succ])
              refine wpAnyH_take (i := 7) (v := ?vq49) (by simp; rfl) (by kernel_rfl) (by kernel_rfl) (by kernel_rfl) (fun _ _ _ h => h) (Or.inl ⟨by rfl, ?yq49⟩) (by assumption) ?rq49
              case yq49 => (intro w' hSw; obtain ⟨s0, s1, s2, s3, s4, s5⟩ := hSw; (try dsimp only at s0 s1 s2 s3 s4 s5); go_simp; first | done | with_reducible rfl)
              (try simp only [Act.put, List.setIfInBounds_toArray, List.set_cons_zero, List.set_cons_succ])
              refine wpAnyH_take (i := 8) (v := ?vq50) (by simp; rfl) (by kernel_rfl) (by kernel_rfl) (by kernel_rfl) (fun _ _ _ h => h) (Or.inl ⟨by rfl, ?yq50⟩) (by assumption) ?rq50
              case yq50 => (intro w' hSw; obtain ⟨s0, s1, s2, s3, s4, s5⟩ := hSw; (try dsimp only at s0 s1 s2 s3 s4 s5); go_simp; first | done | with_reducible rfl)
              (try simp only [Act.put, List.setIfInBounds_toArray, List.set_cons_zero, List.set_cons_succ])
              refine wpAnyH_take (i := 9) (v := ?vq51) (by simp; rfl) (by kernel_rfl) (by kernel_rfl) (by kernel_rfl) (fun _ _ _ h => h) (Or.inl ⟨by rfl, ?yq51⟩) (by assumption) ?rq51
              case yq51 => (intro w' hSw; obtain ⟨s0, s1, s2, s3, s4, s5⟩ := hSw; (try dsimp only at s0 s1 s2 s3 s4 s5); go_simp; first | done | with_reducible rfl)
              (try simp only [Act.put, List.setIfInBounds_toArray, List.set_cons_zero, List.set_cons_succ])
              refine wpAnyH_take (i := 10) (v := ?vq52) (by simp; rfl) (by kernel_rfl) (by kernel_rfl) (by kernel_rfl) (fun _ _ _ h => h) (Or.inl ⟨by rfl, ?yq52⟩) (by assumption) ?rq52
              case yq52 => (intro w' hSw; obtain ⟨s0, s1, s2, s3, s4, s5⟩ := hSw; (try dsimp only at s0 s1 s2 s3 s4 s5); go_simp; first | done | with_reducible rfl)
              (try simp only [Act.put, List.setIfInBounds_toArray, List.set_cons_zero, List.set_cons_succ])
              refine wpAnyH_take (i := 11) (v := ?vq53) (by simp; rfl) (by kernel_rfl) (by kernel_rfl) (by kernel_rfl) (fun _ _ _ h => h) (Or.inl ⟨by rfl, ?yq53⟩) (by assumption) ?rq53
              case yq53 => (intro w' hSw; obtain ⟨s0, s1, s2, s3, s4, s5⟩ := hSw; (try dsimp only at s0 s1 s2 s3 s4 s5); go_simp; first | done | with_reducible rfl)
              (try simp only [Act.put, List.setIfInBounds_toArray, List.set_cons_zero, List.set_cons_succ])
              refine wpAnyH_take (i := 12) (v := ?vq54) (by simp; rfl) (by kernel_rfl) (by kernel_rfl) (by kernel_rfl) (fun _ _ _ h => h) (Or.inl ⟨by rfl, ?yq54⟩) (by assumption) ?rq54
              case yq54 => (intro w' hSw; obtain ⟨s0, s1, s2, s3, s4, s5⟩ := hSw; (try dsimp only at s0 s1 s2 s3 s4 s5); go_simp; first | done | with_reducible rfl)
              (try simp only [Act.put, List.setIfInBounds_toArray, List.set_cons_zero, List.set_cons_succ])
              refine wpAnyH_take (i := 13) (v := ?vq55) (by simp; rfl) (by kernel_rfl) (by kernel_rfl) (by kernel_rfl) (fun _ _ _ h => h) (Or.inl ⟨by rfl, ?yq55⟩) (by assumption) ?rq55
              case yq55 => (intro w' hSw; obtain ⟨s0, s1, s2, s3, s4, s5⟩ := hSw; (try dsimp only at s0 s1 s2 s3 s4 s5); go_simp; first | done | with_reducible rfl)
              (try simp only [Act.put, List.setIfInBounds_toArray, List.set_cons_zero, List.set_cons_succ])
              refine wpAnyH_take (i := 14) (v := ?vq56) (by simp; rfl) (by kernel_rfl) (by kernel_rfl) (by kernel_rfl) (fun _ _ _ h => h) (Or.inl ⟨by rfl, ?yq56⟩) (by assumption) ?rq56
              case yq56 => (intro w' hSw; obtain ⟨s0, s1, s2, s3, s4, s5⟩ := hSw; (try dsimp only at s0 s1 s2 s3 s4 s5); go_simp; first | done | with_reducible rfl)
              (try simp only [Act.put, List.setIfInBounds_toArray, List.set_cons_zero, List.set_cons_succ])
              refine wpAnyH_ready (rs := [15]) (by kernel_rfl) (by simp) ?_
              refine AllReadyH.cons (by simp; rfl) (fun K hK => ?_) AllReadyH.nil
              go_simp
              (first | (go_at_call 94; refine (within_t _ _ _ _ (by assumption)).mono ?_; rintro e w1 ⟨rfl, rfl⟩) | (go_at_call 94; refine (within_any _ _ _ _).mono ?_; rintro e w1 ⟨rfl, rfl⟩))
              refine hK.out _ _ ?_ (fun hHeld => ?_)
              · (try dsimp only)
                (first | exact hHeld | (exact ⟨(far3 (by omega)).trans p0, (far3 (by omega)).trans p1, (far3 (by omega)).trans p2, (far3 (by omega)).trans e0, (far3 (by omega)).trans e1, (far3 (by omega)).trans e1⟩) | (exact ⟨p0, p1, p2, e0, e1, e1⟩))
              clear hK K
              (try simp only [Act.put, List.setIfInBounds_toArray, List.set_cons_zero, List.set_cons_succ])
              refine wpAnyH_take (i := 16) (v := ?vq58) (by simp; rfl) (by kernel_rfl) (by kernel_rfl) (by kernel_rfl) (fun _ _ _ h => h) (Or.inl ⟨by rfl, ?yq58⟩) (by assumption) ?rq58
              case yq58 => (intro w' hSw; obtain ⟨s0, s1, s2, s3, s4, s5⟩ := hSw; (try dsimp only at s0 s1 s2 s3 s4 s5); go_simp; first | done | with_reducible rfl)
              (try simp only [Act.put, List.setIfInBounds_toArray, List.set_cons_zero, List.set_cons_succ])
              refine wpAnyH_ready (rs := [17]) (by kernel_rfl) (by simp) ?_
              refine AllReadyH.cons (by simp; rfl) (fun K hK => ?_) AllReadyH.nil
              go_simp
              go_wp2
              refine hK.out _ _ ?_ (fun hHeld => ?_)
              · (try dsimp only)
                (first | exact hHeld | (exact ⟨(far3 (by omega)).trans p0, (far3 (by omega)).trans p1, (far3 (by omega)).trans p2, (far3 (by omega)).trans e0, (far3 (by omega)).trans e1, (far3 (by omega)).trans e1⟩) | (exact ⟨p0, p1, p2, e0, e1, e1⟩))
              clear hK K
              (try simp only [Act.put, List.setIfInBounds_toArray, List.set_cons_zero, List.set_cons_succ])
              refine wpAnyH_take (i := 18) (v := ?vq60) (by simp; rfl) (by kernel_rfl) (by kernel_rfl) (by kernel_rfl) (fun _ _ _ h => h) (Or.inl ⟨by rfl, ?yq60⟩) (by assumption) ?rq60
              case yq60 => (intro w' hSw; obtain ⟨s0, s1, s2, s3, s4, s5⟩ := hSw; (try dsimp only at s0 s1 s2 s3 s4 s5); go_simp; first | done | with_reducible rfl)
              (try simp only [Act.put, List.setIfInBounds_toArray, List.set_cons_zero, List.set_cons_succ])
              refine wpAnyH_done (by kernel_rfl) ?_ _
              refine NoPanic.normal ?_
              go_wp2
              all_goals exact bodyPost_ret (v := .tuple #[.agg #[.int .u8 97, .slice (some ⟨g, 0, none⟩) 2 cap, .string s], .bool (inB n0 0 n1)]) (by simp [results, Tryz.results108, go_sem, *]) rfl ⟨_, _, _, _, _, (by rw [HF.out.1]), (fun x hx => by
                obtain rfl := HF.out.2 x hx
                exact ⟨rfl, (by (repeat' (first | exact hnm | (refine NumsAt.far ?_ (fun k hk => by have := hgz k hk; simp; omega) _) | (apply NumsAt.drewN) | (apply NumsAt.drew)))), fun k hk => by have := hgz k hk; omega⟩), (by exact below_)⟩
          by_cases h100 : c = 100
          · subst h100
            cases hv : inB n1 1 100
            · skip
              obtain ⟨F1, F2⟩ := pc_fin HW.out HA.out (c := 100) (b := false) (by show (if (100 : UInt8) = 114 ∨ (100 : UInt8) = 102 then dirOk n0 n1 else if (100 : UInt8) = 97 ∨ (100 : UInt8) = 100 then inB n1 1 100 && inB n0 0 n1 else false) = _; rw [if_neg (by decide), if_pos (by decide), hv]; rfl)
              have HF := Lib.hid (And.intro F1 F2)
              clear F1 F2
              go_upto_region 27 with fail
              refine wp_region_noPanic ?_
              refine wp_region_held_drew (S := fun w' => w'.cell? ⟨w.heap.size + 1, 0, none⟩ = some (.int .u8 ((100 : UInt8)).toNat) ∧ w'.cell? ⟨w.heap.size + 1, 1, none⟩ = some (.slice (some ⟨g, 0, none⟩) 2 cap) ∧ w'.cell? ⟨w.heap.size + 1, 2, none⟩ = some (.string s) ∧ w'.cell? ⟨g, 0, none⟩ = some (.int .i64 n0) ∧ w'.cell? ⟨g, 1, none⟩ = some (.int .i64 n1) ∧ w'.cell? ⟨g, 1, none⟩ = some (.int .i64 n1)) (by kernel_rfl) ?_ (fun hHeld => ?_)
              · (try dsimp only)
                (first | exact hHeld | (exact ⟨(far3 (by omega)).trans p0, (far3 (by omega)).trans p1, (far3 (by omega)).trans p2, (far3 (by omega)).trans e0, (far3 (by omega)).trans e1, (far3 (by omega)).trans e1⟩) | (exact ⟨p0, p1, p2, e0, e1, e1⟩))
              refine wpAnyH_take (i := 0) (v := ?vq61) (by simp; rfl) (by kernel_rfl) (by kernel_rfl) (by kernel_rfl) (fun _ _ _ h => h) (Or.inl ⟨by rfl, ?yq61⟩) (by assumption) ?rq61
              case yq61 => (intro w' hSw; obtain ⟨s0, s1, s2, s3, s4, s5⟩ := hSw; (try dsimp only at s0 s1 s2 s3 s4 s5); go_simp; first | done | with_reducible rfl)
              (try simp only [Act.put, List.setIfInBounds_toArray, List.set_cons_zero, List.set_cons_succ])
              refine wpAnyH_take (i := 1) (v := ?vq62) (by simp; rfl) (by kernel_rfl) (by kernel_rfl) (by kernel_rfl) (fun _ _ _ h => h) (Or.inl ⟨by rfl, ?yq62⟩) (by assumption) ?rq62
              case yq62 => (intro w' hSw; obtain ⟨s0, s1, s2, s3, s4, s5⟩ := hSw; (try dsimp only at s0 s1 s2 s3 s4 s5); go_simp; first | done | with_reducible rfl)
              (try simp only [Act.put, List.setIfInBounds_toArray, List.set_cons_zero, List.set_cons_succ])
              refine wpAnyH_take (i := 2) (v := ?vq63) (by simp; rfl) (by kernel_rfl) (by kernel_rfl) (by kernel_rfl) (fun _ _ _ h => h) (Or.inl ⟨by rfl, ?yq63⟩) (by assumption) ?rq63
              case yq63 => (intro w' hSw; obtain ⟨s0, s1, s2, s3, s4, s5⟩ := hSw; (try dsimp only at s0 s1 s2 s3 s4 s5); go_simp; first | done | with_reducible rfl)
              (try simp only [Act.put, List.setIfInBounds_toArray, List.set_cons_zero, List.set_cons_succ])
              refine wpAnyH_take (i := 3) (v := ?vq64) (by simp; rfl) (by kernel_rfl) (by kernel_rfl) (by kernel_rfl) (fun _ _ _ h => h) (Or.inl ⟨by rfl, ?yq64⟩) (by assumption) ?rq64
              case yq64 => (intro w' hSw; obtain ⟨s0, s1, s2, s3, s4, s5⟩ := hSw; (try dsimp only at s0 s1 s2 s3 s4 s5); go_simp; first | done | with_reducible rfl)
              (try simp only [Act.put, List.setIfInBounds_toArray, List.set_cons_zero, List.set_cons_succ])
              refine wpAnyH_take (i := 4) (v := ?vq65) (by simp; rfl) (by kernel_rfl) (by kernel_rfl) (by kernel_rfl) (fun _ _ _ h => h) (Or.inl ⟨by rfl, ?yq65⟩) (by assumption) ?rq65
              case yq65 => (intro w' hSw; obtain ⟨s0, s1, s2, s3, s4, s5⟩ := hSw; (try dsimp only at s0 s1 s2 s3 s4 s5); go_simp; first | done | with_reducible rfl)
              (try simp only [Act.put, List.setIfInBounds_toArray, List.set_cons_zero, List.set_cons_succ])
              refine wpAnyH_ready (rs := [5]) (by kernel_rfl) (by simp) ?_
              refine AllReadyH.cons (by simp; rfl) (fun K hK => ?_) AllReadyH.nil
              go_simp
              (first | (go_at_call 94; refine (within_t _ _ _ _ (by assumption)).mono ?_; rintro e w1 ⟨rfl, rfl⟩) | (go_at_call 94; refine (within_f _ _ _ _ (by assumption)).mono ?_; rintro e w1 ⟨rfl, rfl⟩))
              refine hK.out _ _ ?_ (fun hHeld => ?_)
              · (try dsimp only)
                (first | exact hHeld | (exact ⟨(far3 (by omega)).trans p0, (far3 (by omega)).trans p1, (far3 (by omega)).trans p2, (far3 (by omega)).trans e0, (far3 (by omega)).trans e1, (far3 (by omega)).trans e1⟩) | (exact ⟨p0, p1, p2, e0, e1, e1⟩))
              clear hK K
              (try simp only [Act.put, List.setIfInBounds_toArray, List.set_cons_zero, List.set_cons_succ])
              refine wpAnyH_take (i := 6) (v := ?vq67) (by simp; rfl) (by kernel_rfl) (by kernel_rfl) (by kernel_rfl) (fun _ _ _ h => h) (Or.inl ⟨by rfl, ?yq67⟩) (by assumption) ?rq67
              case yq67 => (intro w' hSw; obtain ⟨s0, s1, s2, s3, s4, s5⟩ := hSw; (try dsimp only at s0 s1 s2 s3 s4 s5); go_simp; first | done | with_reducible rfl)
              (try simp only [Act.put, List.setIfInBounds_toArray, List.set_cons_zero, List.set_cons_succ])
              refine wpAnyH_take (i := 7) (v := undef) (by simp; rfl) (by kernel_rfl) (by kernel_rfl) (by kernel_rfl) (fun _ _ _ h => h) (Or.inr ⟨by rfl, rfl⟩) (by assumption) ?_
              (try simp only [Act.put, List.setIfInBounds_toArray, List.set_cons_zero, List.set_cons_succ])
              refine wpAnyH_take (i := 8) (v := undef) (by simp; rfl) (by kernel_rfl) (by kernel_rfl) (by kernel_rfl) (fun _ _ _ h => h) (Or.inr ⟨by rfl, rfl⟩) (by assumption) ?_
              (try simp only [Act.put, List.setIfInBounds_toArray, List.set_cons_zero, List.set_cons_succ])
              refine wpAnyH_take (i := 9) (v := undef) (by simp; rfl) (by kernel_rfl) (by kernel_rfl) (by kernel_rfl) (fun _ _ _ h => h) (Or.inr ⟨by rfl, rfl⟩) (by assumption) ?_
              (try simp only [Act.put, List.setIfInBounds_toArray, List.set_cons_zero, List.set_cons_succ])
              refine wpAnyH_take (i := 10) (v := undef) (by simp; rfl) (by kernel_rfl) (by kernel_rfl) (by kernel_rfl) (fun _ _ _ h => h) (Or.inr ⟨by rfl, rfl⟩) (by assumption) ?_
              (try simp only [Act.put, List.setIfInBounds_toArray, List.set_cons_zero, List.set_cons_succ])
              refine wpAnyH_take (i := 11) (v := undef) (by simp; rfl) (by kernel_rfl) (by kernel_rfl) (by kernel_rfl) (fun _ _ _ h => h) (Or.inr ⟨by rfl, rfl⟩) (by assumption) ?_
              (try simp only [Act.put, List.setIfInBounds_toArray, List.set_cons_zero, List.set_cons_succ])
              refine wpAnyH_take (i := 12) (v := undef) (by simp; rfl) (by kernel_rfl) (by kernel_rfl) (by kernel_rfl) (fun _ _ _ h => h) (Or.inr ⟨by rfl, rfl⟩) (by assumption) ?_
              (try simp only [Act.put, List.setIfInBounds_toArray, List.set_cons_zero, List.set_cons_succ])
              refine wpAnyH_take (i := 13) (v := undef) (by simp; rfl) (by kernel_rfl) (by kernel_rfl) (by kernel_rfl) (fun _ _ _ h => h) (Or.inr ⟨by rfl, rfl⟩) (by assumption) ?_
              (try simp only [Act.put, List.setIfInBounds_toArray, List.set_cons_zero, List.set_cons_succ])
              refine wpAnyH_take (i := 14) (v := undef) (by simp; rfl) (by kernel_rfl) (by kernel_rfl) (by kernel_rfl) (fun _ _ _ h => h) (Or.inr ⟨by rfl, rfl⟩) (by assumption) ?_
              (try simp only [Act.put, List.setIfInBounds_toArray, List.set_cons_zero, List.set_cons_succ])
              refine wpAnyH_take (i := 15) (v := undef) (by simp; rfl) (by kernel_rfl) (by kernel_rfl) (by kernel_rfl) (fun _ _ _ h => h) (Or.inr ⟨by rfl, rfl⟩) (by assumption) ?_
              (try simp only [Act.put, List.setIfInBounds_toArray, List.set_cons_zero, List.set_cons_succ])
              refine wpAnyH_take (i := 16) (v := ?vq77) (by simp; rfl) (by kernel_rfl) (by kernel_rfl) (by kernel_rfl) (fun _ _ _ h => h) (Or.inl ⟨by rfl, ?yq77⟩) (by assumption) ?rq77
              case yq77 => (intro w' hSw; obtain ⟨s0, s1, s2, s3, s4, s5⟩ := hSw; (try dsimp only at s0 s1 s2 s3 s4 s5); go_simp; first | done | with_reducible rfl)
              (try simp only [Act.put, List.setIfInBounds_toArray, List.set_cons_zero, List.set_cons_succ])
              refine wpAnyH_ready (rs := [17]) (by kernel_rfl) (by simp) ?_
              refine AllReadyH.cons (by simp; rfl) (fun K hK => ?_) AllReadyH.nil
              go_simp
              go_wp2
              refine hK.out _ _ ?_ (fun hHeld => ?_)
              · (try dsimp only)
                (first | exact hHeld | (exact ⟨(far3 (by omega)).trans p0, (far3 (by omega)).trans p1, (far3 (by omega)).trans p2, (far3 (by omega)).trans e0, (far3 (by omega)).trans e1, (far3 (by omega)).trans e1⟩) | (exact ⟨p0, p1, p2, e0, e1, e1⟩))
              clear hK K
              (try simp only [Act.put, List.setIfInBounds_toArray, List.set_cons_zero, List.set_cons_succ])
              refine wpAnyH_take (i := 18) (v := ?vq79) (by simp; rfl) (by kernel_rfl) (by kernel_rfl) (by kernel_rfl) (fun _ _ _ h => h) (Or.inl ⟨by rfl, ?yq79⟩) (by assumption) ?rq79
              case yq79 => (intro w' hSw; obtain ⟨s0, s1, s2, s3, s4, s5⟩ := hSw; (try dsimp only at s0 s1 s2 s3 s4 s5); go_simp; first | done | with_reducible rfl)
              (try simp only [Act.put, List.setIfInBounds_toArray, List.set_cons_zero, List.set_cons_succ])
              refine wpAnyH_done (by kernel_rfl) ?_ _
              refine NoPanic.normal ?_
              go_wp2
              all_goals exact bodyPost_ret (v := .tuple #[.agg #[.int .u8 100, .slice (some ⟨g, 0, none⟩) 2 cap, .string s], .bool (false)]) (by simp [results, Tryz.results108, go_sem, *]) rfl ⟨_, _, _, _, _, (by rw [HF.out.1]), (fun x hx => by
                obtain rfl := HF.out.2 x hx
                exact ⟨rfl, (by (repeat' (first | exact hnm | (refine NumsAt.far ?_ (fun k hk => by have := hgz k hk; simp; omega) _) | (apply NumsAt.drewN) | (apply NumsAt.drew)))), fun k hk => by have := hgz k hk; omega⟩), (by exact below_)⟩
            · skip
              obtain ⟨F1, F2⟩ := pc_fin HW.out HA.out (c := 100) (b := inB n0 0 n1) (by show (if (100 : UInt8) = 114 ∨ (100 : UInt8) = 102 then dirOk n0 n1 else if (100 : UInt8) = 97 ∨ (100 : UInt8) = 100 then inB n1 1 100 && inB n0 0 n1 else false) = _; rw [if_neg (by decide), if_pos (by decide), hv, Bool.true_and])
              have HF := Lib.hid (And.intro F1 F2)
              clear F1 F2
              go_upto_region 27 with fail
              refine wp_region_noPanic ?_
              refine wp_region_held_drew (S := fun w' => w'.cell? ⟨w.heap.size + 1, 0, none⟩ = some (.int .u8 ((100 : UInt8)).toNat) ∧ w'.cell? ⟨w.heap.size + 1, 1, none⟩ = some (.slice (some ⟨g, 0, none⟩) 2 cap) ∧ w'.cell? ⟨w.heap.size + 1, 2, none⟩ = some (.string s) ∧ w'.cell? ⟨g, 0, none⟩ = some (.int .i64 n0) ∧ w'.cell? ⟨g, 1, none⟩ = some (.int .i64 n1) ∧ w'.cell? ⟨g, 1, none⟩ = some (.int .i64 n1)) (by kernel_rfl) ?_ (fun hHeld => ?_)
              · (try dsimp only)
                (first | exact hHeld | (exact ⟨(far3 (by omega)).trans p0, (far3 (by omega)).trans p1, (far3 (by omega)).trans p2, (far3 (by omega)).trans e0, (far3 (by omega)).trans e1, (far3 (by omega)).trans e1⟩) | (exact ⟨p0, p1, p2, e0, e1, e1⟩))
              refine wpAnyH_take (i := 0) (v := ?vq80) (by simp; rfl) (by kernel_rfl) (by kernel_rfl) (by kernel_rfl) (fun _ _ _ h => h) (Or.inl ⟨by rfl, ?yq80⟩) (by assumption) ?rq80
              case yq80 => (intro w' hSw; obtain ⟨s0, s1, s2, s3, s4, s5⟩ := hSw; (try dsimp only at s0 s1 s2 s3 s4 s5); go_simp; first | done | with_reducible rfl)
              (try simp only [Act.put, List.setIfInBounds_toArray, List.set_cons_zero, List.set_cons_succ])
              refine wpAnyH_take (i := 1) (v := ?vq81) (by simp; rfl) (by kernel_rfl) (by kernel_rfl) (by kernel_rfl) (fun _ _ _ h => h) (Or.inl ⟨by rfl, ?yq81⟩) (by assumption) ?rq81
              case yq81 => (intro w' hSw; obtain ⟨s0, s1, s2, s3, s4, s5⟩ := hSw; (try dsimp only at s0 s1 s2 s3 s4 s5); go_simp; first | done | with_reducible rfl)
              (try simp only [Act.put, List.setIfInBounds_toArray, List.set_cons_zero, List.set_cons_succ])
              refine wpAnyH_take (i := 2) (v := ?vq82) (by simp; rfl) (by kernel_rfl) (by kernel_rfl) (by kernel_rfl) (fun _ _ _ h => h) (Or.inl ⟨by rfl, ?yq82⟩) (by assumption) ?rq82
              case yq82 => (intro w' hSw; obtain ⟨s0, s1, s2, s3, s4, s5⟩ := hSw; (try dsimp only at s0 s1 s2 s3 s4 s5); go_simp; first | done | with_reducible rfl)
              (try simp only [Act.put, List.setIfInBounds_toArray, List.set_cons_zero, List.set_cons_succ])
              refine wpAnyH_take (i := 3) (v := ?vq83) (by simp; rfl) (by kernel_rfl) (by kernel_rfl) (by kernel_rfl) (fun _ _ _ h => h) (Or.inl ⟨by rfl, ?yq83⟩) (by assumption) ?rq83
              case yq83 => (intro w' hSw; obtain ⟨s0, s1, s2, s3, s4, s5⟩ := hSw; (try dsimp only at s0 s1 s2 s3 s4 s5); go_simp; first | done | with_reducible rfl)
              (try simp only [Act.put, List.setIfInBounds_toArray, List.set_cons_zero, List.set_cons_succ])
              refine wpAnyH_take (i := 4) (v := ?vq84) (by simp; rfl) (by kernel_rfl) (by kernel_rfl) (by kernel_rfl) (fun _ _ _ h => h) (Or.inl ⟨by rfl, ?yq84⟩) (by assumption) ?rq84
              case yq84 => (intro w' hSw; obtain ⟨s0, s1, s2, s3, s4, s5⟩ := hSw; (try dsimp only at s0 s1 s2 s3 s4 s5); go_simp; first | done | with_reducible rfl)
              (try simp only [Act.put, List.setIfInBounds_toArray, List.set_cons_zero, List.set_cons_succ])
              refine wpAnyH_ready (rs := [5]) (by kernel_rfl) (by simp) ?_
              refine AllReadyH.cons (by simp; rfl) (fun K hK => ?_) AllReadyH.nil
              go_simp
              (first | (go_at_call 94; refine (within_t _ _ _ _ (by assumption)).mono ?_; rintro e w1 ⟨rfl, rfl⟩) | (go_at_call 94; refine (within_any _ _ _ _).mono ?_; rintro e w1 ⟨rfl, rfl⟩))
              refine hK.out _ _ ?_ (fun hHeld => ?_)
              · (try dsimp only)
                (first | exact hHeld | (exact ⟨(far3 (by omega)).trans p0, (far3 (by omega)).trans p1, (far3 (by omega)).trans p2, (far3 (by omega)).trans e0, (far3 (by omega)).trans e1, (far3 (by omega)).trans e1⟩) | (exact ⟨p0, p1, p2, e0, e1, e1⟩))
              clear hK K
              (try simp only [Act.put, List.setIfInBounds_toArray, List.set_cons_zero, List.set_cons_succ])
              refine wpAnyH_take (i := 6) (v := ?vq86) (by simp; rfl) (by kernel_rfl) (by kernel_rfl) (by kernel_rfl) (fun _ _ _ h => h) (Or.inl ⟨by rfl, ?yq86⟩) (by assumption) ?rq86
              case yq86 => (intro w' hSw; obtain ⟨s0, s1, s2, s3, s4, s5⟩ := hSw; (try dsimp only at s0 s1 s2 s3 s4 s5); go_simp; first | done | with_reducible rfl)
              (try simp only [Act.put, List.setIfInBounds_toArray, List.set_cons_zero, List.set_cons_succ])
              refine wpAnyH_take (i := 7) (v := ?vq87) (by simp; rfl) (by kernel_rfl) (by kernel_rfl) (by kernel_rfl) (fun _ _ _ h => h) (Or.inl ⟨by rfl, ?yq87⟩) (by assumption) ?rq87
              case yq87 => (intro w' hSw; obtain ⟨s0, s1, s2, s3, s4, s5⟩ := hSw; (try dsimp only at s0 s1 s2 s3 s4 s5); go_simp; first | done | with_reducible rfl)
              (try simp only [Act.put, List.setIfInBounds_toArray, List.set_cons_zero, List.set_cons_succ])
              refine wpAnyH_take (i := 8) (v := ?vq88) (by simp; rfl) (by kernel_rfl) (by kernel_rfl) (by kernel_rfl) (fun _ _ _ h => h) (Or.inl ⟨by rfl, ?yq88⟩) (by assumption) ?rq88
              case yq88 => (intro w' hSw; obtain ⟨s0, s1, s2, s3, s4, s5⟩ := hSw; (try dsimp only at s0 s1 s2 s3 s4 s5); go_simp; first | done | with_reducible rfl)
              (try simp only [Act.put, List.setIfInBounds_toArray, List.set_cons_zero, List.set_cons_succ])
              refine wpAnyH_take (i := 9) (v := ?vq89) (by simp; rfl) (by kernel_rfl) (by kernel_rfl) (by kernel_rfl) (fun _ _ _ h => h) (Or.inl ⟨by rfl, ?yq89⟩) (by assumption) ?rq89
              case yq89 => (intro w' hSw; obtain ⟨s0, s1, s2, s3, s4, s5⟩ := hSw; (try dsimp only at s0 s1 s2 s3 s4 s5); go_simp; first | done | with_reducible rfl)
              (try simp only [Act.put, List.setIfInBounds_toArray, List.set_cons_zero, List.set_cons_succ])
              refine wpAnyH_take (i := 10) (v := ?vq90) (by simp; rfl) (by kernel_rfl) (by kernel_rfl) (by kernel_rfl) (fun _ _ _ h => h) (Or.inl ⟨by rfl, ?yq90⟩) (by assumption) ?rq90
              case yq90 => (intro w' hSw; obtain ⟨s0, s1, s2, s3, s4, s5⟩ := hSw; (try dsimp only at s0 s1 s2 s3 s4 s5); go_simp; first | done | with_reducible rfl)
              (try simp only [Act.put, List.setIfInBounds_toArray, List.set_cons_zero, List.set_cons_succ])
              refine wpAnyH_take (i := 11) (v := ?vq91) (by simp; rfl) (by kernel_rfl) (by kernel_rfl) (by kernel_rfl) (fun _ _ _ h => h) (Or.inl ⟨by rfl, ?yq91⟩) (by assumption) ?rq91
              case yq91 => (intro w' hSw; obtain ⟨s0, s1, s2, s3, s4, s5⟩ := hSw; (try dsimp only at s0 s1 s2 s3 s4 s5); go_simp; first | done | with_reducible rfl)
              (try simp only [Act.put, List.setIfInBounds_toArray, List.set_cons_zero, List.set_cons_succ])
              refine wpAnyH_take (i := 12) (v := ?vq92) (by simp; rfl) (by kernel_rfl) (by kernel_rfl) (by kernel_rfl) (fun _ _ _ h => h) (Or.inl ⟨by rfl, ?yq92⟩) (by assumption) ?rq92
              case yq92 => (intro w' hSw; obtain ⟨s0, s1, s2, s3, s4, s5⟩ := hSw; (try dsimp only at s0 s1 s2 s3 s4 s5); go_simp; first | done | with_reducible rfl)
              (try simp only [Act.put, List.setIfInBounds_toArray, List.set_cons_zero, List.set_cons_succ])
              refine wpAnyH_take (i := 13) (v := ?vq93) (by simp; rfl) (by kernel_rfl) (by kernel_rfl) (by kernel_rfl) (fun _ _ _ h => h) (Or.inl ⟨by rfl, ?yq93⟩) (by assumption) ?rq93
              case yq93 => (intro w' hSw; obtain ⟨s0, s1, s2, s3, s4, s5⟩ := hSw; (try dsimp only at s0 s1 s2 s3 s4 s5); go_simp; first | done | with_reducible rfl)
              (try simp only [Act.put, List.setIfInBounds_toArray, List.set_cons_zero, List.set_cons_succ])
              refine wpAnyH_take (i := 14) (v := ?vq94) (by simp; rfl) (by kernel_rfl) (by kernel_rfl) (by kernel_rfl) (fun _ _ _ h => h) (Or.inl ⟨by rfl, ?yq94⟩) (by assumption) ?rq94
              case yq94 => (intro w' hSw; obtain ⟨s0, s1, s2, s3, s4, s5⟩ := hSw; (try dsimp only at s0 s1 s2 s3 s4 s5); go_simp; first | done | with_reducible rfl)
              (try simp only [Act.put, List.setIfInBounds_toArray, List.set_cons_zero, List.set_cons_succ])
              refine wpAnyH_ready (rs := [15]) (by kernel_rfl) (by simp) ?_
              refine AllReadyH.cons (by simp; rfl) (fun K hK => ?_) AllReadyH.nil
              go_simp
              (first | (go_at_call 94; refine (within_t _ _ _ _ (by assumption)).mono ?_; rintro e w1 ⟨rfl, rfl⟩) | (go_at_call 94; refine (within_any _ _ _ _).mono ?_; rintro e w1 ⟨rfl, rfl⟩))
              refine hK.out _ _ ?_ (fun hHeld => ?_)
              · (try dsimp only)
                (first | exact hHeld | (exact ⟨(far3 (by omega)).trans p0, (far3 (by omega)).trans p1, (far3 (by omega)).trans p2, (far3 (by omega)).trans e0, (far3 (by omega)).trans e1, (far3 (by omega)).trans e1⟩) | (exact ⟨p0, p1, p2, e0, e1, e1⟩))
              clear hK K
              (try simp only [Act.put, List.setIfInBounds_toArray, List.set_cons_zero, List.set_cons_succ])
              refine wpAnyH_take (i := 16) (v := ?vq96) (by simp; rfl) (by kernel_rfl) (by kernel_rfl) (by kernel_rfl) (fun _ _ _ h => h) (Or.inl ⟨by rfl, ?yq96⟩) (by assumption) ?rq96
              case yq96 => (intro w' hSw; obtain ⟨s0, s1, s2, s3, s4, s5⟩ := hSw; (try dsimp only at s0 s1 s2 s3 s4 s5); go_simp; first | done | with_reducible rfl)
              (try simp only [Act.put, List.setIfInBounds_toArray, List.set_cons_zero, List.set_cons_succ])
              refine wpAnyH_ready (rs := [17]) (by kernel_rfl) (by simp) ?_
              refine AllReadyH.cons (by simp; rfl) (fun K hK => ?_) AllReadyH.nil
              go_simp
              go_wp2
              refine hK.out _ _ ?_ (fun hHeld => ?_)
              · (try dsimp only)
                (first | exact hHeld | (exact ⟨(far3 (by omega)).trans p0, (far3 (by omega)).trans p1, (far3 (by omega)).trans p2, (far3 (by omega)).trans e0, (far3 (by omega)).trans e1, (far3 (by omega)).trans e1⟩) | (exact ⟨p0, p1, p2, e0, e1, e1⟩))
              clear hK K
              (try simp only [Act.put, List.setIfInBounds_toArray, List.set_cons_zero, List.set_cons_succ])
              refine wpAnyH_take (i := 18) (v := ?vq98) (by simp; rfl) (by kernel_rfl) (by kernel_rfl) (by kernel_rfl) (fun _ _ _ h => h) (Or.inl ⟨by rfl, ?yq98⟩) (by assumption) ?rq98
              case yq98 => (intro w' hSw; obtain ⟨s0, s1, s2, s3, s4, s5⟩ := hSw; (try dsimp only at s0 s1 s2 s3 s4 s5); go_simp; first | done | with_reducible rfl)
              (try simp only [Act.put, List.setIfInBounds_toArray, List.set_cons_zero, List.set_cons_succ])
              refine wpAnyH_done (by kernel_rfl) ?_ _
              refine NoPanic.normal ?_
              go_wp2
              all_goals exact bodyPost_ret (v := .tuple #[.agg #[.int .u8 100, .slice (some ⟨g, 0, none⟩) 2 cap, .string s], .bool (inB n0 0 n1)]) (by simp [results, Tryz.results108, go_sem, *]) rfl ⟨_, _, _, _, _, (by rw [HF.out.1]), (fun x hx => by
                obtain rfl := HF.out.2 x hx
                exact ⟨rfl, (by (repeat' (first | exact hnm | (refine NumsAt.far ?_ (fun k hk => by have := hgz k hk; simp; omega) _) | (apply NumsAt.drewN) | (apply NumsAt.drew)))), fun k hk => by have := hgz k hk; omega⟩), (by exact below_)⟩
          have hc1 : ((c.toNat : Int) == 114) = false := u8_ne h114
          have hc2 : ((c.toNat : Int) == 102) = false := u8_ne h102
          have hc3 : ((c.toNat : Int) == 97) = false := u8_ne h97
          have hc4 : ((c.toNat : Int) == 100) = false := u8_ne h100
          obtain ⟨F1, F2⟩ := pc_fin HW.out HA.out (c := c) (b := false) (by show (if c = 114 ∨ c = 102 then dirOk n0 n1 else if c = 97 ∨ c = 100 then inB n1 1 100 && inB n0 0 n1 else false) = _; rw [if_neg (fun hh => hh.elim h114 h102), if_neg (fun hh => hh.elim h97 h100)])
          have HF := Lib.hid (And.intro F1 F2)
          clear F1 F2
          go_wp2
          all_goals exact bodyPost_ret (v := .tuple #[.agg #[.int .u8 c.toNat, .slice (some ⟨g, 0, none⟩) 2 cap, .string s], .bool (false)]) (by simp [results, Tryz.results108, go_sem, *]) rfl ⟨_, _, _, _, _, (by rw [HF.out.1]), (fun x hx => by
            obtain rfl := HF.out.2 x hx
            exact ⟨rfl, (by (repeat' (first | exact hnm | (refine NumsAt.far ?_ (fun k hk => by have := hgz k hk; simp; omega) _) | (apply NumsAt.drewN) | (apply NumsAt.drew)))), fun k hk => by have := hgz k hk; omega⟩), (by exact below_)⟩
        · have hf : pcOk c ns = false := pc_len2 h3 hn3
          obtain ⟨F1, F2⟩ := pc_fin HW.out HA.out (c := c) (b := false) (by exact hf)
          have HF := Lib.hid (And.intro F1 F2)
          clear F1 F2
          have hw : 0 < ns.length := by have := cutL_ne 58 r; rw [HW.out] at this; have := List.length_pos_iff.2 this; omega
          obtain ⟨g, cap, rfl, hcap, hcapm, hgb, hgl, hgc⟩ := hR.n.at hw
          obtain ⟨⟨p0, p1, p2⟩, f0, f1, f2⟩ := blk_pc hR.p
          obtain ⟨⟨r0, r1, r2⟩, g0, g1, g2⟩ := blk_pc hR.r
          have hBw := hR.B
          clear hR hgc
          have hq : ((ns.length : Int) != 2) = true := by simp; omega
          go_wp2
          exact bodyPost_ret (v := .tuple #[.agg #[.int .u8 c.toNat, .slice (some ⟨g, 0, none⟩) ns.length cap, .string s], .bool false]) (by simp [results, Tryz.results108, go_sem, *]) rfl ⟨_, _, _, _, _, (by rw [HF.out.1]), (fun x hx => by have := HF.out.1; rw [hx] at this; cases this), (by exact below_)⟩
theorem readPiece_l (l : List UInt8) (ok : Bool) (w : World) (hs : l.length ≤ 1048576) (hG : GL w) (hok : Hid ((pieceI l).isSome = ok)) :
    Calls Tryz.prog 108 #[.string ⟨l.toArray⟩] w fun e w' => ∃ kk A len cap b, e = .returned (.tuple #[.agg #[.int .u8 kk, .slice A len cap, .string b], .bool ok]) ∧
      Hid (∀ x, pieceI l = some x → kk = x.k.toNat ∧ NumsAt w' (.slice A len cap) x.ns ∧ ∀ k, (Value.slice A len cap).ownBlock = some k → w.heap.size ≤ k) ∧ Below w.heap.size w w' := by
  cases l with
  | nil =>
    have hk : ok = false := hok.out.symm
    subst hk
    exact (readPiece_nil w).mono fun e w' ⟨h1, h2⟩ => ⟨_, _, _, _, _, h1, Lib.hid (fun x h => by cases h), h2⟩
  | cons c r =>
    have h := readPiece_cons ⟨(c :: r).toArray⟩ c r rfl w (by rw [Lib.size_eq]; simpa using hs) hG
    simp only [hok.out] at h
    exact h
end
section
open Go.RowKit
attribute [local go_sem ↓] Go.wp_at_zero Go.wp_at_succ
/-- What the loop over the words of a bench keeps. -/
structure RB (w : World) (ws : List (List UInt8)) (v : Value) (ps : List Pc) (W : World) : Prop where
  B : Below w.heap.size w W
  t : Blk W (w.heap.size + 1) (ws.map fun l => Value.string ⟨l.toArray⟩).toArray 9
  p : Pcs 90 3 w.heap.size v ps W
  n : ∀ k, v.ownBlock = some k → k ≠ w.heap.size + 1
section
variable {w W W' : World} {ws : List (List UInt8)} {v : Value} {ps : List Pc}
theorem RB.below (h : RB w ws v ps W) (hb : Below W.heap.size W W') : RB w ws v ps W' :=
  ⟨bstep h.B hb h.B.size, (hb.block _ (blk_lt h.t)).trans h.t, h.p.below hb, h.n⟩
theorem RB.word (h : RB w ws v ps W) {k : Nat} {l : List UInt8} (hk : ws[k]? = some l) : W.cell? ⟨w.heap.size + 1, k, none⟩ = some (.string ⟨l.toArray⟩) := by
  rw [cell_of_row W _ k _ _ _ h.t]
  simp [hk]
theorem RB.grown (h : RB w ws v ps W) (hg : W.grownBy W' v.ownBlock) {v' : Value} {ps' : List Pc} (hp : Pcs 90 3 w.heap.size v' ps' W') (hv : v'.ownBlock = v.ownBlock ∨ v'.ownBlock = some W.heap.size) : RB w ws v' ps' W' := by
  have hlt := h.p.lt
  have ht := blk_lt h.t
  refine ⟨Below.grown h.B hg h.B.size (fun k e => (hlt k e).1), (hg.block _ ht (fun e => h.n _ e.symm rfl)).trans h.t, hp, fun k hk => ?_⟩
  rcases hv with hv | hv
  · exact h.n k (hv ▸ hk)
  · rw [hv] at hk
    have := Option.some.inj hk
    omega
end
theorem bench_no {l : List UInt8} {ws : List (List UInt8)} (hl : l ≠ []) (h1 : cutL 32 l = ws) (h : allM pieceI ws = none ∨ 12 < ws.length) : benchI l = none := by
  unfold benchI
  rw [if_neg hl, h1]
  cases ha : allM pieceI ws with
  | none => rfl
  | some ps =>
    rw [Option.bind_some, if_neg]
    have := allM_len ha
    rcases h with h | h
    · rw [ha] at h; cases h
    · omega
theorem bench_yes {l : List UInt8} {ws : List (List UInt8)} {ps : List Pc} (hl : l ≠ []) (h1 : cutL 32 l = ws) (h : allM pieceI ws = some ps) (hp : ps.length ≤ 12) : benchI l = some ps := by
  unfold benchI
  rw [if_neg hl, h1, h, Option.bind_some, if_pos hp]
set_option maxHeartbeats 4000000 in
theorem readBench_nil (w : World) :
    Calls Tryz.prog 75 #[.string ⟨#[]⟩] w fun e w' => ∃ v, e = .returned (.tuple #[v, .bool true]) ∧ Pcs 90 3 w.heap.size v [] w' ∧ Below w.heap.size w w' := by
  have hm := Pcs.made 90 3 w w.heap.size (Nat.le_refl _)
  go_enter Tryz.func75, Tryz.ntmps75
  go_wp2
  go_ret2
  exact ⟨_, rfl, hm, by exact below_⟩
set_option maxHeartbeats 4000000 in
theorem readBench_cons (s : ByteArray) (l : List UInt8) (hl : s.data.toList = l) (hne : l ≠ []) (w : World) (hs : s.size ≤ 1048576) (hG : GL w) :
    Calls Tryz.prog 75 #[.string s] w fun e w' => ∃ v, e = .returned (.tuple #[v, .bool (benchI l).isSome]) ∧ (benchI l = none → v = .slice none 0 0) ∧ (∀ ps, benchI l = some ps → Pcs 90 3 w.heap.size v ps w') ∧ Below w.heap.size w w' := by
  have hsz : s.size = l.length := by rw [Lib.size_eq s, hl]
  have hem : s.toList.isEmpty = false := by rw [ByteArray.toList_eq, hl]; simpa using hne
  obtain ⟨ws, hws⟩ : ∃ ws, cutL 32 l = ws := ⟨_, rfl⟩
  have hwl := cutL_len 32 l
  rw [hws] at hwl
  have hcell : ∀ W, GL W → Calls Tryz.prog 107 #[.string s, .string ⟨#[32]⟩] W fun e w' => e = .returned (.slice (some ⟨W.heap.size, 0, none⟩) ws.length ws.length) ∧ w' = W.alloc (.cells (ws.map fun l => Value.string ⟨l.toArray⟩).toArray 9) := fun W hW => by
    have := split_c s 32 W (by omega) hW
    rw [hl, hws] at this
    exact this
  have hz0 : (w.alloc (.cells #[] 90)).heap.size = w.heap.size + 1 := by simp
  have hR : RB w ws (.slice (some ⟨w.heap.size, 0, none⟩) 0 0) [] ((w.alloc (.cells #[] 90)).alloc (.cells (ws.map fun l => Value.string ⟨l.toArray⟩).toArray 9)) := by
    refine ⟨by exact below_, ?_, (Pcs.made 90 3 w w.heap.size (Nat.le_refl _)).below ((Below.refl _ _).alloc (Nat.le_refl _) _), fun k hk => ?_⟩
    · have := heap_alloc_last (w.alloc (.cells #[] 90)) (.cells (ws.map fun l => Value.string ⟨l.toArray⟩).toArray 9)
      rwa [World.size_alloc] at this
    · have := Option.some.inj hk
      simp only at this
      omega
  have hG0 : GL (w.alloc (.cells #[] 90)) := hG.below (by exact below_)
  have HW := Lib.hid hws
  have HL := Lib.hid hwl
  have HNE := Lib.hid hne
  clear hl hws hwl hne
  go_enter Tryz.func75, Tryz.ntmps75
  go_upto_region 5 with (go_at_call 107; (with_reducible refine (hcell _ hG0).mono ?_); rintro e w1 ⟨rfl, rfl⟩; rw [hz0])
  clear hz0 hG0 hcell
  go_loopw [4, 16] (fun v i wr => ∃ (k : Nat) (ps : List Pc), k ≤ ws.length ∧ i = .int .i64 k ∧ Hid (allM pieceI (ws.take k) = some ps ∧ ps.length = k ∧ k ≤ 12) ∧ RB w ws v ps wr) (fun _ i _ => ws.length - (intOf i).toNat)
  case atStart => exact ⟨0, [], Nat.zero_le _, rfl, Lib.hid ⟨rfl, rfl, by omega⟩, hR⟩
  case round =>
    clear hR
    obtain ⟨k, ps, hk, rfl, hall, hR⟩ := hrel
    have hzw := hR.B.size
    obtain ⟨A0, cap0, hv0⟩ := hR.p.slice
    subst hv0
    by_cases hkl : k < ws.length
    · obtain ⟨x, hx⟩ : ∃ x, ws[k]? = some x := ⟨_, List.getElem?_eq_getElem hkl⟩
      have hwc := hR.word hx
      have hll : x.length ≤ 1048576 := by
        have h1 : x.length ≤ (ws.map List.length).sum := mem_sum (List.mem_of_getElem? hx)
        have h2 := HL.out
        omega
      have hkb : (k : Int) + 1 ≤ 9223372036854775807 := by have := HL.out; omega
      obtain ⟨ok, hok⟩ : ∃ ok, (pieceI x).isSome = ok := ⟨_, rfl⟩
      have HOK := Lib.hid hok
      have HK := Lib.hid hx
      have hki : (k : Int) < ws.length := by omega
      clear hok hx
      go_upto_region 8 with (go_at_call 108; (with_reducible refine (readPiece_l x ok _ hll (hG.below hR.B) HOK).mono ?_); rintro e w2 ⟨kk, A, len2, cap2, b, rfl, hq, hb⟩)
      have hR2 := hR.below hb
      have hzz := hb.size
      have HLT := Lib.hid hR.p.lt
      clear hb hR hwc
      cases ok
      · have he := bench_no HNE.out HW.out (.inl (allM_none HK.out (by have := HOK.out; simpa using this)))
        have HE := Lib.hid he
        have hBq := hR2.B
        clear he hR2 hq
        go_wp2
        go_ret2
        exact ⟨_, (by rw [HE.out]; rfl), fun _ => rfl, (fun ps h => by rw [HE.out] at h; cases h), (by exact below_)⟩
      · by_cases h12 : k = 12
        · have he := bench_no HNE.out HW.out (.inr (by omega))
          have HE := Lib.hid he
          have hBq := hR2.B
          have hpl : ((ps.length : Int) == 12) = true := by rw [hall.out.2.1, h12]; rfl
          clear he hR2 hq
          go_wp2
          go_ret2
          exact ⟨_, (by rw [HE.out]; rfl), fun _ => rfl, (fun ps h => by rw [HE.out] at h; cases h), (by exact below_)⟩
        · have hpl : ((ps.length : Int) == 12) = false := by rw [hall.out.2.1]; simp; omega
          obtain ⟨y, hy⟩ := Option.isSome_iff_exists.1 HOK.out
          obtain ⟨hq1, hq2, hq3⟩ := hq.out y hy
          subst hq1
          have HY := Lib.hid hy
          clear hy hq
          obtain ⟨W2, hW2, hR3, hn3, c0, c1, c2, hz3⟩ : ∃ W, W = w2.alloc (.cells #[.int .u8 y.k.toNat, .slice A len2 cap2, .string b] 90) ∧ RB w ws (.slice A0 ps.length cap0) ps W ∧ NumsAt W (.slice A len2 cap2) y.ns ∧ W.cell? ⟨w2.heap.size, 0, none⟩ = some (.int .u8 y.k.toNat) ∧ W.cell? ⟨w2.heap.size, 1, none⟩ = some (.slice A len2 cap2) ∧ W.cell? ⟨w2.heap.size, 2, none⟩ = some (.string b) ∧ w2.heap.size < W.heap.size :=
            ⟨_, rfl, hR2.below ((Below.refl _ _).alloc (Nat.le_refl _) _), hq2.below ((Below.refl _ _).alloc (Nat.le_refl _) _), World.cell?_alloc_at _ _ _ _ rfl, World.cell?_alloc_at _ _ _ _ rfl, World.cell?_alloc_at _ _ _ _ rfl, by simp⟩
          have hqv : ∀ kq, (Value.slice A len2 cap2).ownBlock = some kq → (Value.slice A0 ps.length cap0).ownBlock ≠ some kq ∧ w.heap.size ≤ kq := fun kq hkq => ⟨fun e => by have h1 := (HLT.out kq e).2; have h2 := hq3 kq hkq; omega, by have h2 := hq3 kq hkq; omega⟩
          rw [← hW2]
          have hkl12 := hall.out.2
          have hR4 := hR3.below ((Below.refl _ _).alloc (Nat.le_refl _) (.cells #[.int .u8 y.k.toNat, .slice A len2 cap2, .string b] 90))
          have hn4 := hn3.below ((Below.refl _ _).alloc (Nat.le_refl _) (.cells #[.int .u8 y.k.toNat, .slice A len2 cap2, .string b] 90))
          have hB4 := hR4.B.size
          have HALL := Lib.hid hkl12
          have hlen : ps.length + 1 < 4000000 := by omega
          clear hW2 hR2 hq2 hq3 hkl12
          go_wp2_with (at_builtin; refine wpList_appP rfl (.tmp 32) (.tmp 34) rfl w.heap.size _ ps _ (by rfl) hR4.p W2.heap.size 1 (by rfl) y (.slice A len2 cap2) b (World.cell?_alloc_at _ _ _ _ rfl) (World.cell?_alloc_at _ _ _ _ rfl) (World.cell?_alloc_at _ _ _ _ rfl) hn4 hqv hlen hB4 ?_; intro v2 w3 hO3 hg3 hv3; refine Hid.out ?_)
          refine Lib.hid ?_
          have hR5 := hR4.grown hg3 hO3 hv3
          clear hO3 hg3 hv3 hR4 hR3 hn4 hn3 hqv hB4 c0 c1 c2
          go_wp2
          go_roundw
          case rel => exact ⟨k + 1, ps ++ [y], by omega, by go_num, Lib.hid ⟨allM_take hall.out.1 HK.out HY.out, by rw [List.length_append, HALL.out.1]; rfl, (by have := HALL.out; omega)⟩, hR5⟩
          case measure => simp [intOf]; omega
    · obtain rfl : k = ws.length := by omega
      rw [List.take_length] at hall
      have he := bench_yes HNE.out HW.out hall.out.1 (by have := hall.out.2; omega)
      have HE := Lib.hid he
      clear he
      go_wp2
      go_ret2
      exact ⟨_, (by rw [HE.out]; rfl), (fun h => by rw [HE.out] at h; cases h), (fun ps' h => by rw [HE.out] at h; obtain rfl := Option.some.inj h; exact hR.p), hR.B⟩
theorem readBench_any (s : ByteArray) (w : World) (hs : s.size ≤ 1048576) (hG : GL w) :
    Calls Tryz.prog 75 #[.string s] w fun e w' => ∃ v, e = .returned (.tuple #[v, .bool (benchI s.data.toList).isSome]) ∧ (benchI s.data.toList = none → v = .slice none 0 0) ∧ (∀ ps, benchI s.data.toList = some ps → Pcs 90 3 w.heap.size v ps w') ∧ Below w.heap.size w w' := by
  by_cases h : s.data.toList = []
  · have h0 : s = ⟨#[]⟩ := by
      have := bytes_mk s
      rw [h] at this
      exact this.symm
    subst h0
    refine (readBench_nil w).mono fun e w' ⟨v, h1, h2, h3⟩ => ⟨v, h1, (fun h => by cases h), (fun ps h => by obtain rfl := Option.some.inj h; exact h2), h3⟩
  · exact readBench_cons s _ rfl h w hs hG
end
end Go.Proofs.YtjbnkefeacineaaGreatDoor
