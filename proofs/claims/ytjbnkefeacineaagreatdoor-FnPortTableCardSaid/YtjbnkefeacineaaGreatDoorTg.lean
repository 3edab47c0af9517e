/-
  The walks of the parts of fractions and of the two closures of TableOf (program).
-/
import Derived.Test.YtjbnkefeacineaaGreatDoorJb
import Derived.Test.YtjbnkefeacineaaGreatDoorMv
import Derived.Test.YtjbnkefeacineaaGreatDoorJg
import Derived.Test.YtjbnkefeacineaaGreatDoorFg
namespace Go.Proofs.YtjbnkefeacineaaGreatDoor
set_option linter.unusedSimpArgs false
set_option linter.unusedVariables false
open Go.RowKit
attribute [local go_sem ↓] Go.wp_at_zero Go.wp_at_succ
set_option maxHeartbeats 1000000 in
theorem s_real (a : Fr) (bs : Nat) (bad : Bool) (w : World) (hs : SumIs w bs bad) :
    Calls Tryz.prog 87 #[.pointer (some ⟨bs, 0, none⟩), frv a] w fun e w' => e = .returned (frv (vN (realI a))) ∧ SumIs w' bs (bad || (realI a).isNone) ∧ BelX w.heap.size bs w w' := by
  have hlt := hs.lt
  have hcs := hs.cell
  have hfs := hs.frozen
  have hne : w.heap.size ≠ bs ∧ w.heap.size + 1 ≠ bs ∧ w.heap.size + 1 + 1 ≠ bs := ⟨by omega, by omega, by omega⟩
  cases ha : fvalid a
  · have e1 : realI a = none := by simp [realI, ha]
    rw [e1]
    go_enter Tryz.func87, Tryz.ntmps87
    go_wp2_with (first | (go_at_call 58; (with_reducible refine (fvalid_f a _ (by assumption)).mono ?_); rintro e w1 ⟨rfl, hb⟩; obtain ⟨hc, hf⟩ := bf hb (w.heap.size + 1 + 1) side_; have hs := hb.size; (try simp only [World.size_alloc, World.size_setCell, World.size_drew, World.heap_drewN] at hs); have hl : w.heap.size ≤ w1.heap.size ∧ w.heap.size < w1.heap.size ∧ w.heap.size + 1 < w1.heap.size := ⟨by omega, by omega, by omega⟩; have hB : Below w.heap.size w w1 := bstep (by exact below_) hb side_; have hs1 : SumIs w1 (bs) _ := SumIs.below (by exact sum_) hb side_; have hcs1 := hs1.cell; have hfs1 := hs1.frozen; clear hs hb))
    exact bodyPost_ret (v := frv ⟨0, 0, 0⟩) (by simp [results, Tryz.results87, go_sem, *]) rfl ⟨rfl, by simp only [Option.isNone_none, Bool.or_true]; exact sum_, by exact belx_⟩
  · have e1 : realI a = lowI a.re 0 a.den := by simp [realI, ha]
    rw [e1]
    have hbd := fvalid_bd a ha
    have b1 : -9000000000000000000 ≤ a.re ∧ a.re ≤ 9000000000000000000 := by omega
    have b2 : 1 ≤ a.den ∧ a.den ≤ 9000000000000000000 := by omega
    go_enter Tryz.func87, Tryz.ntmps87
    go_wp2_with (first | (go_at_call 58; (with_reducible refine (fvalid_t a _ (by assumption)).mono ?_); rintro e w1 ⟨rfl, hb⟩; obtain ⟨hc, hf⟩ := bf hb (w.heap.size + 1 + 1) side_; have hs := hb.size; (try simp only [World.size_alloc, World.size_setCell, World.size_drew, World.heap_drewN] at hs); have hl : w.heap.size ≤ w1.heap.size ∧ w.heap.size < w1.heap.size ∧ w.heap.size + 1 < w1.heap.size := ⟨by omega, by omega, by omega⟩; have hB : Below w.heap.size w w1 := bstep (by exact below_) hb side_; have hs1 : SumIs w1 (bs) _ := SumIs.below (by exact sum_) hb side_; have hcs1 := hs1.cell; have hfs1 := hs1.frozen; clear hs hb) | (go_at_call 59; (with_reducible refine (lowest_any a.re 0 a.den _ b1.1 b1.2 (by omega) (by omega) b2.1 b2.2).mono ?_); rintro e w1 ⟨rfl, hb⟩; obtain ⟨hc, hf⟩ := bf hb (w.heap.size + 1 + 1) side_; have hs := hb.size; (try simp only [World.size_alloc, World.size_setCell, World.size_drew, World.heap_drewN] at hs); have hl : w.heap.size ≤ w1.heap.size ∧ w.heap.size < w1.heap.size ∧ w.heap.size + 1 < w1.heap.size := ⟨by omega, by omega, by omega⟩; have hB : Below w.heap.size w w1 := bstep (by exact below_) hb side_; have hs1 : SumIs w1 (bs) _ := SumIs.below (by exact sum_) hb side_; have hcs1 := hs1.cell; have hfs1 := hs1.frozen; clear hs hb) | (go_at_call 93; (with_reducible refine (x_keep (lowI a.re 0 a.den) bs _ (by exact sum_)).mono ?_); rintro e w1 ⟨rfl, hu, hx⟩; have hs1 := hu _ (by exact sum_); clear hu; obtain ⟨hc, hf⟩ := bfxO hx (w.heap.size) (w.heap.size + 1 + 1) side_ side_; have hs2 := hx.size; (try simp only [World.size_alloc, World.size_setCell, World.size_drew, World.heap_drewN] at hs2); have hl : w.heap.size ≤ w1.heap.size ∧ w.heap.size < w1.heap.size ∧ w.heap.size + 1 < w1.heap.size := ⟨by omega, by omega, by omega⟩; have hcs1 := hs1.cell; have hfs1 := hs1.frozen; have hX : BelX w.heap.size bs w w1 := BelX.step (by exact belx_) hx side_; clear hs2 hx))
    exact bodyPost_ret (v := frv (vN (lowI a.re 0 a.den))) (by simp [results, Tryz.results87, go_sem, vN, zK, *]) rfl ⟨rfl, by exact sum_, by exact belx_⟩
theorem x_real (a : Fr) (bs : Nat) (w : World) (hs : SumEx w bs) :
    Calls Tryz.prog 87 #[.pointer (some ⟨bs, 0, none⟩), frv a] w fun e w' => e = .returned (frv (vN (realI a))) ∧ (∀ c, SumIs w bs c → SumIs w' bs (c || (realI a).isNone)) ∧ BelX w.heap.size bs w w' := by
  obtain ⟨b0, hb⟩ := hs
  exact (s_real a bs b0 w hb).mono fun e w' ⟨h1, h2, h3⟩ => ⟨h1, fun c hc => by rw [← hb.uniq hc]; exact h2, h3⟩
set_option maxHeartbeats 1000000 in
theorem s_imag (a : Fr) (bs : Nat) (bad : Bool) (w : World) (hs : SumIs w bs bad) :
    Calls Tryz.prog 88 #[.pointer (some ⟨bs, 0, none⟩), frv a] w fun e w' => e = .returned (frv (vN (imagI a))) ∧ SumIs w' bs (bad || (imagI a).isNone) ∧ BelX w.heap.size bs w w' := by
  have hlt := hs.lt
  have hcs := hs.cell
  have hfs := hs.frozen
  have hne : w.heap.size ≠ bs ∧ w.heap.size + 1 ≠ bs ∧ w.heap.size + 1 + 1 ≠ bs := ⟨by omega, by omega, by omega⟩
  cases ha : fvalid a
  · have e1 : imagI a = none := by simp [imagI, ha]
    rw [e1]
    go_enter Tryz.func88, Tryz.ntmps88
    go_wp2_with (first | (go_at_call 58; (with_reducible refine (fvalid_f a _ (by assumption)).mono ?_); rintro e w1 ⟨rfl, hb⟩; obtain ⟨hc, hf⟩ := bf hb (w.heap.size + 1 + 1) side_; have hs := hb.size; (try simp only [World.size_alloc, World.size_setCell, World.size_drew, World.heap_drewN] at hs); have hl : w.heap.size ≤ w1.heap.size ∧ w.heap.size < w1.heap.size ∧ w.heap.size + 1 < w1.heap.size := ⟨by omega, by omega, by omega⟩; have hB : Below w.heap.size w w1 := bstep (by exact below_) hb side_; have hs1 : SumIs w1 (bs) _ := SumIs.below (by exact sum_) hb side_; have hcs1 := hs1.cell; have hfs1 := hs1.frozen; clear hs hb))
    exact bodyPost_ret (v := frv ⟨0, 0, 0⟩) (by simp [results, Tryz.results88, go_sem, *]) rfl ⟨rfl, by simp only [Option.isNone_none, Bool.or_true]; exact sum_, by exact belx_⟩
  · have e1 : imagI a = lowI a.im 0 a.den := by simp [imagI, ha]
    rw [e1]
    have hbd := fvalid_bd a ha
    have b1 : -9000000000000000000 ≤ a.im ∧ a.im ≤ 9000000000000000000 := by omega
    have b2 : 1 ≤ a.den ∧ a.den ≤ 9000000000000000000 := by omega
    go_enter Tryz.func88, Tryz.ntmps88
    go_wp2_with (first | (go_at_call 58; (with_reducible refine (fvalid_t a _ (by assumption)).mono ?_); rintro e w1 ⟨rfl, hb⟩; obtain ⟨hc, hf⟩ := bf hb (w.heap.size + 1 + 1) side_; have hs := hb.size; (try simp only [World.size_alloc, World.size_setCell, World.size_drew, World.heap_drewN] at hs); have hl : w.heap.size ≤ w1.heap.size ∧ w.heap.size < w1.heap.size ∧ w.heap.size + 1 < w1.heap.size := ⟨by omega, by omega, by omega⟩; have hB : Below w.heap.size w w1 := bstep (by exact below_) hb side_; have hs1 : SumIs w1 (bs) _ := SumIs.below (by exact sum_) hb side_; have hcs1 := hs1.cell; have hfs1 := hs1.frozen; clear hs hb) | (go_at_call 59; (with_reducible refine (lowest_any a.im 0 a.den _ b1.1 b1.2 (by omega) (by omega) b2.1 b2.2).mono ?_); rintro e w1 ⟨rfl, hb⟩; obtain ⟨hc, hf⟩ := bf hb (w.heap.size + 1 + 1) side_; have hs := hb.size; (try simp only [World.size_alloc, World.size_setCell, World.size_drew, World.heap_drewN] at hs); have hl : w.heap.size ≤ w1.heap.size ∧ w.heap.size < w1.heap.size ∧ w.heap.size + 1 < w1.heap.size := ⟨by omega, by omega, by omega⟩; have hB : Below w.heap.size w w1 := bstep (by exact below_) hb side_; have hs1 : SumIs w1 (bs) _ := SumIs.below (by exact sum_) hb side_; have hcs1 := hs1.cell; have hfs1 := hs1.frozen; clear hs hb) | (go_at_call 93; (with_reducible refine (x_keep (lowI a.im 0 a.den) bs _ (by exact sum_)).mono ?_); rintro e w1 ⟨rfl, hu, hx⟩; have hs1 := hu _ (by exact sum_); clear hu; obtain ⟨hc, hf⟩ := bfxO hx (w.heap.size) (w.heap.size + 1 + 1) side_ side_; have hs2 := hx.size; (try simp only [World.size_alloc, World.size_setCell, World.size_drew, World.heap_drewN] at hs2); have hl : w.heap.size ≤ w1.heap.size ∧ w.heap.size < w1.heap.size ∧ w.heap.size + 1 < w1.heap.size := ⟨by omega, by omega, by omega⟩; have hcs1 := hs1.cell; have hfs1 := hs1.frozen; have hX : BelX w.heap.size bs w w1 := BelX.step (by exact belx_) hx side_; clear hs2 hx))
    exact bodyPost_ret (v := frv (vN (lowI a.im 0 a.den))) (by simp [results, Tryz.results88, go_sem, vN, zK, *]) rfl ⟨rfl, by exact sum_, by exact belx_⟩
theorem x_imag (a : Fr) (bs : Nat) (w : World) (hs : SumEx w bs) :
    Calls Tryz.prog 88 #[.pointer (some ⟨bs, 0, none⟩), frv a] w fun e w' => e = .returned (frv (vN (imagI a))) ∧ (∀ c, SumIs w bs c → SumIs w' bs (c || (imagI a).isNone)) ∧ BelX w.heap.size bs w w' := by
  obtain ⟨b0, hb⟩ := hs
  exact (s_imag a bs b0 w hb).mono fun e w' ⟨h1, h2, h3⟩ => ⟨h1, fun c hc => by rw [← hb.uniq hc]; exact h2, h3⟩
/-- What the closure over a pair keeps. -/
structure PS (w0 : World) (bp bs : Nat) (u v : Fr) (W : World) : Prop where
  a : FrG W w0.heap.size u
  b : FrG W (w0.heap.size + 1) v
  r : ∃ z, FrG W (w0.heap.size + 1 + 1) z
  p : W.cell? ⟨bp, 0, none⟩ = some (.pointer (some ⟨bs, 0, none⟩))
  X : BelX w0.heap.size bs w0 W
theorem PS.drew {w0 W : World} {bp bs : Nat} {u v : Fr} (h : PS w0 bp bs u v W) : PS w0 bp bs u v W.drew := ⟨h.a.drew, h.b.drew, h.r.elim fun z h => ⟨z, h.drew⟩, h.p, h.X.drew⟩
theorem PS.step {w0 W w1 : World} {bp bs : Nat} {u v : Fr} (h : PS w0 bp bs u v W) (hx : BelX W.heap.size bs W w1) (hp : bs < bp) (hpw : bp < w0.heap.size) : PS w0 bp bs u v w1 := by
  have hs := h.X.size
  obtain ⟨z, hz⟩ := h.r
  have hr := hz.lt
  exact ⟨h.a.step hx h.a.lt (by omega), h.b.step hx h.b.lt (by omega), ⟨z, hz.step hx hz.lt (by omega)⟩, (World.cell?_of_block (w := W) (a := ⟨bp, 0, none⟩) (hx.block bp (by omega) (by omega))).trans h.p, h.X.step hx hs⟩
theorem PS.cells {w0 W : World} {bp bs : Nat} {u v : Fr} (h : PS w0 bp bs u v W) : W.cell? ⟨w0.heap.size, 0, none⟩ = some (.int .i64 u.re) ∧ W.cell? ⟨w0.heap.size, 1, none⟩ = some (.int .i64 u.im) ∧ W.cell? ⟨w0.heap.size, 2, none⟩ = some (.int .i64 u.den) ∧
    W.cell? ⟨w0.heap.size + 1, 0, none⟩ = some (.int .i64 v.re) ∧ W.cell? ⟨w0.heap.size + 1, 1, none⟩ = some (.int .i64 v.im) ∧ W.cell? ⟨w0.heap.size + 1, 2, none⟩ = some (.int .i64 v.den) ∧ W.cell? ⟨bp, 0, none⟩ = some (.pointer (some ⟨bs, 0, none⟩)) :=
  ⟨h.a.c0, h.a.c1, h.a.c2, h.b.c0, h.b.c1, h.b.c2, h.p⟩
theorem PS.put {w0 W : World} {bp bs : Nat} {u v : Fr} (h : PS w0 bp bs u v W) (hp : bs < bp) (hpw : bp < w0.heap.size) (y : Fr) : PS w0 bp bs u v (((W.setCell ⟨w0.heap.size + 1 + 1, 0, none⟩ (.int .i64 y.re)).setCell ⟨w0.heap.size + 1 + 1, 1, none⟩ (.int .i64 y.im)).setCell ⟨w0.heap.size + 1 + 1, 2, none⟩ (.int .i64 y.den)) := by
  obtain ⟨z, hz⟩ := h.r
  have hb : BelX W.heap.size (w0.heap.size + 1 + 1) W (((W.setCell ⟨w0.heap.size + 1 + 1, 0, none⟩ (.int .i64 y.re)).setCell ⟨w0.heap.size + 1 + 1, 1, none⟩ (.int .i64 y.im)).setCell ⟨w0.heap.size + 1 + 1, 2, none⟩ (.int .i64 y.den)) := (((BelX.refl _ _ _).setSum _).setSum _).setSum _
  exact ⟨h.a.step hb h.a.lt (by omega), h.b.step hb h.b.lt (by omega), ⟨y, hz.put y⟩, (World.cell?_of_block (w := W) (a := ⟨bp, 0, none⟩) (hb.block bp (by have := h.X.size; omega) (by omega))).trans h.p, ((h.X.setCell (by show w0.heap.size ≤ w0.heap.size + 1 + 1; omega) _).setCell (by show w0.heap.size ≤ w0.heap.size + 1 + 1; omega) _).setCell (by show w0.heap.size ≤ w0.heap.size + 1 + 1; omega) _⟩
end Go.Proofs.YtjbnkefeacineaaGreatDoor
