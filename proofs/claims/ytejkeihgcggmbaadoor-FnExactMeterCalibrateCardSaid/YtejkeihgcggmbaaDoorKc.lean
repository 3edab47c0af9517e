/-
  The walk of the program's determinant, along the first row: for rows of one more, from that for rows of one less.
-/
import Derived.Test.YtejkeihgcggmbaaDoorKb
import Derived.Deep.RegionHeld3
import Derived.Deep.CutRange
import Derived.IntWalk
namespace Go.Proofs.YtejkeihgcggmbaaDoor
set_option linter.unusedSimpArgs false
set_option linter.unusedVariables false
open Go.RowKit
attribute [local go_sem ↓] Go.wp_at_zero Go.wp_at_succ
/-- Rows of so many fractions each. -/
def Shape (n : Nat) (rows : List (List Fr)) : Prop := rows.length = n + 1 ∧ ∀ r ∈ rows, r.length = n + 1
theorem Shape.minor {n k : Nat} {rows : List (List Fr)} (h : Shape (n + 1) rows) (hk : k < n + 2) : Shape n (minorK k rows) := by
  refine ⟨by rw [minorK, List.length_map, List.length_tail, h.1]; omega, fun r hr => ?_⟩
  obtain ⟨r0, hr0, rfl⟩ := List.mem_map.1 hr
  have hl := h.2 r0 (List.mem_of_mem_tail hr0)
  rw [cutK, List.length_append, List.length_take, List.length_drop, hl]
  omega
theorem minor_next {k j : Nat} {rows : List (List Fr)} {r : List Fr} (h : rows[j + 1]? = some r) : (rows.tail.take (j + 1)).map (cutK k) = (rows.tail.take j).map (cutK k) ++ [cutK k r] := by
  rw [List.take_add_one, List.map_append]
  have : rows.tail[j]? = some r := by rw [List.getElem?_tail]; exact h
  rw [this]
  rfl
/-- What the call's own memory holds. -/
structure TK (w : World) (bs : Nat) (bad : Bool) (acc : Fr) (W : World) : Prop where
  r : FrG W w.heap.size ⟨0, 0, 0⟩
  a : FrG W (w.heap.size + 1) acc
  s : SumIs W bs bad
  X : BelX w.heap.size bs w W
section
variable {w W w1 : World} {bs : Nat} {bad : Bool} {acc : Fr}
theorem TK.below (h : TK w bs bad acc W) (hb : Below W.heap.size W w1) : TK w bs bad acc w1 := ⟨h.r.below hb, h.a.below hb, h.s.below hb h.s.lt, h.X.stepB hb h.X.size⟩
theorem TK.alloc (h : TK w bs bad acc W) (o : Obj) : TK w bs bad acc (W.alloc o) := h.below ((Below.refl _ _).alloc (Nat.le_refl _) o)
theorem TK.drew (h : TK w bs bad acc W) : TK w bs bad acc W.drew := ⟨h.r.drew, h.a.drew, h.s.drew, h.X.drew⟩
theorem TK.drewN (h : TK w bs bad acc W) (n : Nat) : TK w bs bad acc (W.drewN n) := ⟨h.r.drewN n, h.a.drewN n, h.s.drewN n, h.X.drewN n⟩
theorem TK.belX (h : TK w bs bad acc W) (hlt : bs < w.heap.size) (hb : BelX W.heap.size bs W w1) {c : Bool} (hs : SumIs w1 bs c) : TK w bs c acc w1 :=
  ⟨h.r.step hb h.r.lt (by omega), h.a.step hb h.a.lt (by omega), hs, BelX.step h.X hb h.X.size⟩
theorem TK.far (h : TK w bs bad acc W) (hlt : bs < w.heap.size) {p : Addr} (hp : w.heap.size + 1 < p.block) (u : Value) : TK w bs bad acc (W.setCell p u) :=
  ⟨h.r.far (by omega) u, h.a.far (by omega) u, h.s.far (by omega) u, h.X.setCell (by omega) u⟩
theorem TK.put (h : TK w bs bad acc W) (hlt : bs < w.heap.size) (y : Fr) : TK w bs bad y (((W.setCell ⟨w.heap.size + 1, 0, none⟩ (.int .i64 y.re)).setCell ⟨w.heap.size + 1, 1, none⟩ (.int .i64 y.im)).setCell ⟨w.heap.size + 1, 2, none⟩ (.int .i64 y.den)) :=
  ⟨((h.r.far (by simp) _).far (by simp) _).far (by simp) _, h.a.put y, ((h.s.far (by simp; omega) _).far (by simp; omega) _).far (by simp; omega) _, ((h.X.setCell (by simp) _).setCell (by simp) _).setCell (by simp) _⟩
end
/-- What the determinant of n + 1 rows does. -/
def DetC (n : Nat) : Prop := ∀ (A : Option Addr) (cap bs : Nat) (rows : List (List Fr)) (w : World), Shape n rows → RowsAt bs A (n + 1) cap rows w → SumEx w bs →
  Calls Tryd.prog 27 #[.pointer (some ⟨bs, 0, none⟩), .slice A (n + 1) cap] w fun e w' => e = .returned (frv (detI n rows).1) ∧ (∀ c, SumIs w bs c → SumIs w' bs (c || (detI n rows).2)) ∧ BelX w.heap.size bs w w'
set_option maxRecDepth 100000 in
set_option maxHeartbeats 8000000 in
theorem det_zero : DetC 0 := by
  intro A cap bs rows w hsh hR hS
  obtain ⟨b1, o1, A1, c1, r, rfl, hb1, hne1, hr, hcell, hF, -⟩ := hR.at (i := 0) (by omega)
  have hrl : r.length = 1 := hsh.2 r (List.mem_of_getElem? hr)
  rw [hrl] at hcell hF
  obtain ⟨b2, o2, f, rfl, hb2, hf, hat⟩ := hF.at (Below.refl _ _) (k := 0) (by omega)
  have he : (detI 0 rows) = (f, false) := by
    show (entryK rows 0, false) = _
    have h1 : rows.headD [] = r := by cases rows <;> simp at hr ⊢; exact hr
    rw [entryK, h1, List.getD, hf]
    rfl
  rw [he]
  rw [Nat.zero_mul, Nat.add_zero] at hat
  rw [Nat.add_zero] at hcell
  obtain ⟨c0, c1', c2⟩ := hat
  have HS := Lib.hid hS
  clear hr hf he hR hsh hF hS hrl
  go_enter Tryd.func27, Tryd.ntmps27
  go_wp2
  exact bodyPost_ret (v := frv f) (by simp [results, Tryd.results27, go_sem, *]) rfl ⟨rfl, fun c hc => by rw [Bool.or_false]; (repeat' (first | (with_reducible assumption) | (with_reducible exact SumIs.new' (by simp)) | (with_reducible apply SumIs.alloc) | (with_reducible apply SumIs.setEx) | (with_reducible exact SumEx.of ‹_›) | (with_reducible exact SumEx.of (SumIs.new' (by simp))) | (with_reducible apply SumEx.alloc) | (with_reducible apply SumIs.far) | (with_reducible apply SumEx.far) | (with_reducible apply SumIs.drewN) | (with_reducible apply SumIs.drew) | (with_reducible apply SumEx.drewN) | (with_reducible apply SumEx.drew) | omega | (simp; done) | (simp; omega))), by (repeat' (first | (with_reducible exact BelX.refl _ _ _) | (with_reducible assumption) | (with_reducible exact BelX.of ‹_›) | (with_reducible refine BelX.setCell ?_ (by first | omega | (simp; done) | (simp; omega)) _) | (with_reducible refine BelX.setSum ?_ _) | (with_reducible refine BelX.alloc ?_ (by first | omega | (simp; done) | (simp; omega)) _) | (with_reducible refine BelX.drewN ?_ _) | (with_reducible refine BelX.drew ?_)))⟩
end Go.Proofs.YtejkeihgcggmbaaDoor
