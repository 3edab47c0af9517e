/-
  Arrays of four fractions in memory, and the walk of the program's solve.
-/
import Derived.Test.YtejkeihgcggmbaaDoorKd
import Derived.Test.YtejkeihgcggmbaaDoorKg
import Derived.Test.YtejkeihgcggmbaaDoorMn
namespace Go.Proofs.YtejkeihgcggmbaaDoor
set_option linter.unusedSimpArgs false
set_option linter.unusedVariables false
open Go.RowKit
attribute [local go_sem ↓] Go.wp_at_zero Go.wp_at_succ
/-- An array of fractions from the head of a block on, which may be written. -/
structure ArrW (W : World) (b : Nat) (xs : List Fr) : Prop where
  c : ∀ i s, xs[i]? = some s → FAt W b (i * 3) s
  f : ∀ o, W.frozen? ⟨b, o, none⟩ = false
  l : b < W.heap.size
def zs4 : List Fr := [⟨0, 0, 0⟩, ⟨0, 0, 0⟩, ⟨0, 0, 0⟩, ⟨0, 0, 0⟩]
section
variable {W w1 : World} {b : Nat} {xs : List Fr}
theorem ArrW.same (h : ArrW W b xs) (e : w1.heap[b]? = W.heap[b]?) : ArrW w1 b xs := by
  have c := fun o => World.cell?_of_block (w := W) (w' := w1) (a := ⟨b, o, none⟩) e
  refine ⟨fun i s hi => ⟨(c _).trans (h.c i s hi).1, (c _).trans (h.c i s hi).2.1, (c _).trans (h.c i s hi).2.2⟩, fun o => (World.frozen?_of_block (w := W) (w' := w1) (a := ⟨b, o, none⟩) e).trans (h.f o), ?_⟩
  rcases Nat.lt_or_ge b w1.heap.size with hlt | hge
  · exact hlt
  · have h1 := (Array.getElem?_eq_none hge)
    have h2 := h.l
    rw [h1, Array.getElem?_eq_getElem h2] at e
    cases e
theorem ArrW.below (h : ArrW W b xs) (hb : Below W.heap.size W w1) : ArrW w1 b xs := h.same (hb.block b h.l)
theorem ArrW.step {br : Nat} (h : ArrW W b xs) (hb : BelX W.heap.size br W w1) (hne : b ≠ br) : ArrW w1 b xs := h.same (hb.block b h.l hne)
theorem ArrW.alloc (h : ArrW W b xs) (o : Obj) : ArrW (W.alloc o) b xs := h.below ((Below.refl _ _).alloc (Nat.le_refl _) o)
theorem ArrW.drew (h : ArrW W b xs) : ArrW W.drew b xs := ⟨h.c, h.f, h.l⟩
theorem ArrW.drewN (h : ArrW W b xs) (n : Nat) : ArrW (W.drewN n) b xs := ⟨h.c, h.f, h.l⟩
theorem ArrW.far (h : ArrW W b xs) {p : Addr} (hp : b ≠ p.block) (u : Value) : ArrW (W.setCell p u) b xs := h.same (Below.heap_setCell W p u b hp)
theorem ArrW.put (h : ArrW W b xs) {i : Nat} (hi : i < xs.length) (s : Fr) :
    ArrW (((W.setCell ⟨b, i * 3, none⟩ (.int .i64 s.re)).setCell ⟨b, i * 3 + 1, none⟩ (.int .i64 s.im)).setCell ⟨b, i * 3 + 2, none⟩ (.int .i64 s.den)) b (xs.set i s) := by
  have h0 := h.c i _ (List.getElem?_eq_getElem hi)
  obtain ⟨k0, k1, k2⟩ := h0
  refine ⟨fun j t hj => ?_, fun o => by simp [go_sem, h.f], by simpa using h.l⟩
  by_cases hji : j = i
  · subst hji
    rw [List.getElem?_set_self hi] at hj
    obtain rfl := Option.some.inj hj
    exact ⟨by simp [go_sem, k0, k1, k2, h.f], by simp [go_sem, k0, k1, k2, h.f], by simp [go_sem, k0, k1, k2, h.f]⟩
  · rw [List.getElem?_set_ne (by omega)] at hj
    obtain ⟨t0, t1, t2⟩ := h.c j t hj
    have n0 : j * 3 ≠ i * 3 ∧ j * 3 ≠ i * 3 + 1 ∧ j * 3 ≠ i * 3 + 2 := by omega
    have n1 : j * 3 + 1 ≠ i * 3 ∧ j * 3 + 1 ≠ i * 3 + 1 ∧ j * 3 + 1 ≠ i * 3 + 2 := by omega
    have n2 : j * 3 + 2 ≠ i * 3 ∧ j * 3 + 2 ≠ i * 3 + 1 ∧ j * 3 + 2 ≠ i * 3 + 2 := by omega
    have key : ∀ o u, W.cell? ⟨b, o, none⟩ = some u → o ≠ i * 3 → o ≠ i * 3 + 1 → o ≠ i * 3 + 2 → (((W.setCell ⟨b, i * 3, none⟩ (.int .i64 s.re)).setCell ⟨b, i * 3 + 1, none⟩ (.int .i64 s.im)).setCell ⟨b, i * 3 + 2, none⟩ (.int .i64 s.den)).cell? ⟨b, o, none⟩ = some u := by
      intro o u hu e0 e1 e2
      have q : ∀ p : Nat, o ≠ p → (⟨b, p, none⟩ : Addr) ≠ ⟨b, o, none⟩ := fun p hp e => hp (by injection e with h1 h2; exact h2.symm)
      exact (World.cell?_setCell_other _ _ _ _ (q _ e2)).trans ((World.cell?_setCell_other _ _ _ _ (q _ e1)).trans ((World.cell?_setCell_other _ _ _ _ (q _ e0)).trans hu))
    exact ⟨key _ _ t0 n0.1 n0.2.1 n0.2.2, key _ _ t1 n1.1 n1.2.1 n1.2.2, key _ _ t2 n2.1 n2.2.1 n2.2.2⟩
theorem ArrW.zero (W : World) (t : TypeId) : ArrW (W.alloc (.cells #[.int .i64 0, .int .i64 0, .int .i64 0, .int .i64 0, .int .i64 0, .int .i64 0, .int .i64 0, .int .i64 0, .int .i64 0, .int .i64 0, .int .i64 0, .int .i64 0] t)) W.heap.size zs4 := by
  refine ⟨fun i s hi => ?_, fun o => frozenNew W _ t o, by simp⟩
  have hi4 := (List.getElem?_eq_some_iff.1 hi).1
  have : i = 0 ∨ i = 1 ∨ i = 2 ∨ i = 3 := by simp [zs4] at hi4; omega
  rcases this with rfl | rfl | rfl | rfl <;> (simp [zs4] at hi; subst hi; exact ⟨World.cell?_alloc_at _ _ _ _ rfl, World.cell?_alloc_at _ _ _ _ rfl, World.cell?_alloc_at _ _ _ _ rfl⟩)
theorem ArrW.four {x y z u : Fr} (h : ArrW W b [x, y, z, u]) : W.cell? ⟨b, 0, none⟩ = some (.int .i64 x.re) ∧ W.cell? ⟨b, 1, none⟩ = some (.int .i64 x.im) ∧ W.cell? ⟨b, 2, none⟩ = some (.int .i64 x.den) ∧ W.cell? ⟨b, 3, none⟩ = some (.int .i64 y.re) ∧ W.cell? ⟨b, 4, none⟩ = some (.int .i64 y.im) ∧ W.cell? ⟨b, 5, none⟩ = some (.int .i64 y.den) ∧ W.cell? ⟨b, 6, none⟩ = some (.int .i64 z.re) ∧ W.cell? ⟨b, 7, none⟩ = some (.int .i64 z.im) ∧ W.cell? ⟨b, 8, none⟩ = some (.int .i64 z.den) ∧ W.cell? ⟨b, 9, none⟩ = some (.int .i64 u.re) ∧ W.cell? ⟨b, 10, none⟩ = some (.int .i64 u.im) ∧ W.cell? ⟨b, 11, none⟩ = some (.int .i64 u.den) := by
  have h0 := h.c 0 x rfl
  have h1 := h.c 1 y rfl
  have h2 := h.c 2 z rfl
  have h3 := h.c 3 u rfl
  exact ⟨h0.1, h0.2.1, h0.2.2, h1.1, h1.2.1, h1.2.2, h2.1, h2.2.1, h2.2.2, h3.1, h3.2.1, h3.2.2⟩
theorem ArrW.z (h : ArrW W b zs4) : W.cell? ⟨b, 0, none⟩ = some (.int .i64 0) ∧ W.cell? ⟨b, 1, none⟩ = some (.int .i64 0) ∧ W.cell? ⟨b, 2, none⟩ = some (.int .i64 0) ∧ W.cell? ⟨b, 3, none⟩ = some (.int .i64 0) ∧ W.cell? ⟨b, 4, none⟩ = some (.int .i64 0) ∧ W.cell? ⟨b, 5, none⟩ = some (.int .i64 0) ∧ W.cell? ⟨b, 6, none⟩ = some (.int .i64 0) ∧ W.cell? ⟨b, 7, none⟩ = some (.int .i64 0) ∧ W.cell? ⟨b, 8, none⟩ = some (.int .i64 0) ∧ W.cell? ⟨b, 9, none⟩ = some (.int .i64 0) ∧ W.cell? ⟨b, 10, none⟩ = some (.int .i64 0) ∧ W.cell? ⟨b, 11, none⟩ = some (.int .i64 0) := h.four
end
set_option maxRecDepth 100000 in
set_option maxHeartbeats 16000000 in
theorem got_arrT (x y z u : Fr) (bs : Nat) (w : World) (hs : SumIs w bs false) :
    Calls Tryd.prog 29 #[.pointer (some ⟨bs, 0, none⟩), .agg #[.int .i64 x.re, .int .i64 x.im, .int .i64 x.den, .int .i64 y.re, .int .i64 y.im, .int .i64 y.den, .int .i64 z.re, .int .i64 z.im, .int .i64 z.den, .int .i64 u.re, .int .i64 u.im, .int .i64 u.den]] w fun e w' => e = .returned (.tuple #[.agg #[.int .i64 x.re, .int .i64 x.im, .int .i64 x.den, .int .i64 y.re, .int .i64 y.im, .int .i64 y.den, .int .i64 z.re, .int .i64 z.im, .int .i64 z.den, .int .i64 u.re, .int .i64 u.im, .int .i64 u.den], .bool true]) ∧ Below w.heap.size w w' := by
  have hlt := hs.lt
  have hcs := hs.cell
  have hne : w.heap.size ≠ bs ∧ w.heap.size + 1 ≠ bs ∧ w.heap.size + 1 + 1 ≠ bs := ⟨by omega, by omega, by omega⟩
  go_enter Tryd.func29, Tryd.ntmps29
  go_wp2
  exact bodyPost_ret (v := .tuple #[.agg #[.int .i64 x.re, .int .i64 x.im, .int .i64 x.den, .int .i64 y.re, .int .i64 y.im, .int .i64 y.den, .int .i64 z.re, .int .i64 z.im, .int .i64 z.den, .int .i64 u.re, .int .i64 u.im, .int .i64 u.den], .bool true]) (by simp [results, Tryd.results29, go_sem, *]) rfl ⟨rfl, by (repeat' (first | (with_reducible exact Below.refl _ _) | (with_reducible assumption) | (with_reducible refine Below.setCell ?_ (by first | omega | (simp; done) | (simp; omega)) _) | (with_reducible refine Below.alloc ?_ (by first | omega | (simp; done) | (simp; omega)) _) | (with_reducible refine below_drewN ?_ _) | (with_reducible refine Below.drew ?_)))⟩
set_option maxRecDepth 100000 in
set_option maxHeartbeats 16000000 in
theorem got_arrF (x y z u : Fr) (bs : Nat) (w : World) (hs : SumIs w bs true) :
    Calls Tryd.prog 29 #[.pointer (some ⟨bs, 0, none⟩), .agg #[.int .i64 x.re, .int .i64 x.im, .int .i64 x.den, .int .i64 y.re, .int .i64 y.im, .int .i64 y.den, .int .i64 z.re, .int .i64 z.im, .int .i64 z.den, .int .i64 u.re, .int .i64 u.im, .int .i64 u.den]] w fun e w' => e = .returned (.tuple #[.agg #[.int .i64 0, .int .i64 0, .int .i64 0, .int .i64 0, .int .i64 0, .int .i64 0, .int .i64 0, .int .i64 0, .int .i64 0, .int .i64 0, .int .i64 0, .int .i64 0], .bool false]) ∧ Below w.heap.size w w' := by
  have hlt := hs.lt
  have hcs := hs.cell
  have hne : w.heap.size ≠ bs ∧ w.heap.size + 1 ≠ bs ∧ w.heap.size + 1 + 1 ≠ bs := ⟨by omega, by omega, by omega⟩
  go_enter Tryd.func29, Tryd.ntmps29
  go_wp2
  exact bodyPost_ret (v := .tuple #[.agg #[.int .i64 0, .int .i64 0, .int .i64 0, .int .i64 0, .int .i64 0, .int .i64 0, .int .i64 0, .int .i64 0, .int .i64 0, .int .i64 0, .int .i64 0, .int .i64 0], .bool false]) (by simp [results, Tryd.results29, go_sem, *]) rfl ⟨rfl, by (repeat' (first | (with_reducible exact Below.refl _ _) | (with_reducible assumption) | (with_reducible refine Below.setCell ?_ (by first | omega | (simp; done) | (simp; omega)) _) | (with_reducible refine Below.alloc ?_ (by first | omega | (simp; done) | (simp; omega)) _) | (with_reducible refine below_drewN ?_ _) | (with_reducible refine Below.drew ?_)))⟩
end Go.Proofs.YtejkeihgcggmbaaDoor
