/-
  The walks of the parts of fractions and of the two closures of TableOf (program).
-/
import Derived.Test.YtkdggljioekkhaaGreatDoorJb
import Derived.Test.YtkdggljioekkhaaGreatDoorMv
import Derived.Test.YtkdggljioekkhaaGreatDoorJg
import Derived.Test.YtkdggljioekkhaaGreatDoorFg
namespace Go.Proofs.YtkdggljioekkhaaGreatDoor
set_option linter.unusedSimpArgs false
set_option linter.unusedVariables false
open Go.RowKit
attribute [local go_sem ↓] Go.wp_at_zero Go.wp_at_succ
set_option maxHeartbeats 1000000 in
theorem s_real (a : Fr) (bs : Nat) (bad : Bool) (w : World) (hs : SumIs w bs bad) :
    Calls Tryz.prog 86 #[.pointer (some ⟨bs, 0, none⟩), frv a] w fun e w' => e = .returned (frv (vN (realI a))) ∧ SumIs w' bs (bad || (realI a).isNone) ∧ BelX w.heap.size bs w w' := by
  have hlt := hs.lt
  have hcs := hs.cell
  have hfs := hs.frozen
  have hne : w.heap.size ≠ bs ∧ w.heap.size + 1 ≠ bs ∧ w.heap.size + 1 + 1 ≠ bs := ⟨by omega, by omega, by omega⟩
  cases ha : fvalid a
  · have e1 : realI a = none := by simp [realI, ha]
    rw [e1]
    go_enter Tryz.func86, Tryz.ntmps86
    go_wp2_with (first | (go_at_call 78; (with_reducible refine (fvalid_f a _ (by assumption)).mono ?_); rintro e w1 ⟨rfl, hb⟩; obtain ⟨hc, hf⟩ := bf hb (w.heap.size + 1 + 1) side_; have hs := hb.size; (try simp only [World.size_alloc, World.size_setCell, World.size_drew, World.heap_drewN] at hs); have hl : w.heap.size ≤ w1.heap.size ∧ w.heap.size < w1.heap.size ∧ w.heap.size + 1 < w1.heap.size := ⟨by omega, by omega, by omega⟩; have hB : Below w.heap.size w w1 := bstep (by exact below_) hb side_; have hs1 : SumIs w1 (bs) _ := SumIs.below (by exact sum_) hb side_; have hcs1 := hs1.cell; have hfs1 := hs1.frozen; clear hs hb))
    exact bodyPost_ret (v := frv ⟨0, 0, 0⟩) (by simp [results, Tryz.results86, go_sem, *]) rfl ⟨rfl, by simp only [Option.isNone_none, Bool.or_true]; exact sum_, by exact belx_⟩
  · have e1 : realI a = lowI a.re 0 a.den := by simp [realI, ha]
    rw [e1]
    have hbd := fvalid_bd a ha
    have b1 : -9000000000000000000 ≤ a.re ∧ a.re ≤ 9000000000000000000 := by omega
    have b2 : 1 ≤ a.den ∧ a.den ≤ 9000000000000000000 := by omega
    go_enter Tryz.func86, Tryz.ntmps86
    go_wp2_with (first | (go_at_call 78; (with_reducible refine (fvalid_t a _ (by assumption)).mono ?_); rintro e w1 ⟨rfl, hb⟩; obtain ⟨hc, hf⟩ := bf hb (w.heap.size + 1 + 1) side_; have hs := hb.size; (try simp only [World.size_alloc, World.size_setCell, World.size_drew, World.heap_drewN] at hs); have hl : w.heap.size ≤ w1.heap.size ∧ w.heap.size < w1.heap.size ∧ w.heap.size + 1 < w1.heap.size := ⟨by omega, by omega, by omega⟩; have hB : Below w.heap.size w w1 := bstep (by exact below_) hb side_; have hs1 : SumIs w1 (bs) _ := SumIs.below (by exact sum_) hb side_; have hcs1 := hs1.cell; have hfs1 := hs1.frozen; clear hs hb) | (go_at_call 79; (with_reducible refine (lowest_any a.re 0 a.den _ b1.1 b1.2 (by omega) (by omega) b2.1 b2.2).mono ?_); rintro e w1 ⟨rfl, hb⟩; obtain ⟨hc, hf⟩ := bf hb (w.heap.size + 1 + 1) side_; have hs := hb.size; (try simp only [World.size_alloc, World.size_setCell, World.size_drew, World.heap_drewN] at hs); have hl : w.heap.size ≤ w1.heap.size ∧ w.heap.size < w1.heap.size ∧ w.heap.size + 1 < w1.heap.size := ⟨by omega, by omega, by omega⟩; have hB : Below w.heap.size w w1 := bstep (by exact below_) hb side_; have hs1 : SumIs w1 (bs) _ := SumIs.below (by exact sum_) hb side_; have hcs1 := hs1.cell; have hfs1 := hs1.frozen; clear hs hb) | (go_at_call 70; (with_reducible refine (x_keep (lowI a.re 0 a.den) bs _ (by exact sum_)).mono ?_); rintro e w1 ⟨rfl, hu, hx⟩; have hs1 := hu _ (by exact sum_); clear hu; obtain ⟨hc, hf⟩ := bfxO hx (w.heap.size) (w.heap.size + 1 + 1) side_ side_; have hs2 := hx.size; (try simp only [World.size_alloc, World.size_setCell, World.size_drew, World.heap_drewN] at hs2); have hl : w.heap.size ≤ w1.heap.size ∧ w.heap.size < w1.heap.size ∧ w.heap.size + 1 < w1.heap.size := ⟨by omega, by omega, by omega⟩; have hcs1 := hs1.cell; have hfs1 := hs1.frozen; have hX : BelX w.heap.size bs w w1 := BelX.step (by exact belx_) hx side_; clear hs2 hx))
    exact bodyPost_ret (v := frv (vN (lowI a.re 0 a.den))) (by simp [results, Tryz.results86, go_sem, vN, zK, *]) rfl ⟨rfl, by exact sum_, by exact belx_⟩
theorem x_real (a : Fr) (bs : Nat) (w : World) (hs : SumEx w bs) :
    Calls Tryz.prog 86 #[.pointer (some ⟨bs, 0, none⟩), frv a] w fun e w' => e = .returned (frv (vN (realI a))) ∧ (∀ c, SumIs w bs c → SumIs w' bs (c || (realI a).isNone)) ∧ BelX w.heap.size bs w w' := by
  obtain ⟨b0, hb⟩ := hs
  exact (s_real a bs b0 w hb).mono fun e w' ⟨h1, h2, h3⟩ => ⟨h1, fun c hc => by rw [← hb.uniq hc]; exact h2, h3⟩
set_option maxHeartbeats 1000000 in
theorem s_imag (a : Fr) (bs : Nat) (bad : Bool) (w : World) (hs : SumIs w bs bad) :
    Calls Tryz.prog 87 #[.pointer (some ⟨bs, 0, none⟩), frv a] w fun e w' => e = .returned (frv (vN (imagI a))) ∧ SumIs w' bs (bad || (imagI a).isNone) ∧ BelX w.heap.size bs w w' := by
  have hlt := hs.lt
  have hcs := hs.cell
  have hfs := hs.frozen
  have hne : w.heap.size ≠ bs ∧ w.heap.size + 1 ≠ bs ∧ w.heap.size + 1 + 1 ≠ bs := ⟨by omega, by omega, by omega⟩
  cases ha : fvalid a
  · have e1 : imagI a = none := by simp [imagI, ha]
    rw [e1]
    go_enter Tryz.func87, Tryz.ntmps87
    go_wp2_with (first | (go_at_call 78; (with_reducible refine (fvalid_f a _ (by assumption)).mono ?_); rintro e w1 ⟨rfl, hb⟩; obtain ⟨hc, hf⟩ := bf hb (w.heap.size + 1 + 1) side_; have hs := hb.size; (try simp only [World.size_alloc, World.size_setCell, World.size_drew, World.heap_drewN] at hs); have hl : w.heap.size ≤ w1.heap.size ∧ w.heap.size < w1.heap.size ∧ w.heap.size + 1 < w1.heap.size := ⟨by omega, by omega, by omega⟩; have hB : Below w.heap.size w w1 := bstep (by exact below_) hb side_; have hs1 : SumIs w1 (bs) _ := SumIs.below (by exact sum_) hb side_; have hcs1 := hs1.cell; have hfs1 := hs1.frozen; clear hs hb))
    exact bodyPost_ret (v := frv ⟨0, 0, 0⟩) (by simp [results, Tryz.results87, go_sem, *]) rfl ⟨rfl, by simp only [Option.isNone_none, Bool.or_true]; exact sum_, by exact belx_⟩
  · have e1 : imagI a = lowI a.im 0 a.den := by simp [imagI, ha]
    rw [e1]
    have hbd := fvalid_bd a ha
    have b1 : -9000000000000000000 ≤ a.im ∧ a.im ≤ 9000000000000000000 := by omega
    have b2 : 1 ≤ a.den ∧ a.den ≤ 9000000000000000000 := by omega
    go_enter Tryz.func87, Tryz.ntmps87
    go_wp2_with (first | (go_at_call 78; (with_reducible refine (fvalid_t a _ (by assumption)).mono ?_); rintro e w1 ⟨rfl, hb⟩; obtain ⟨hc, hf⟩ := bf hb (w.heap.size + 1 + 1) side_; have hs := hb.size; (try simp only [World.size_alloc, World.size_setCell, World.size_drew, World.heap_drewN] at hs); have hl : w.heap.size ≤ w1.heap.size ∧ w.heap.size < w1.heap.size ∧ w.heap.size + 1 < w1.heap.size := ⟨by omega, by omega, by omega⟩; have hB : Below w.heap.size w w1 := bstep (by exact below_) hb side_; have hs1 : SumIs w1 (bs) _ := SumIs.below (by exact sum_) hb side_; have hcs1 := hs1.cell; have hfs1 := hs1.frozen; clear hs hb) | (go_at_call 79; (with_reducible refine (lowest_any a.im 0 a.den _ b1.1 b1.2 (by omega) (by omega) b2.1 b2.2).mono ?_); rintro e w1 ⟨rfl, hb⟩; obtain ⟨hc, hf⟩ := bf hb (w.heap.size + 1 + 1) side_; have hs := hb.size; (try simp only [World.size_alloc, World.size_setCell, World.size_drew, World.heap_drewN] at hs); have hl : w.heap.size ≤ w1.heap.size ∧ w.heap.size < w1.heap.size ∧ w.heap.size + 1 < w1.heap.size := ⟨by omega, by omega, by omega⟩; have hB : Below w.heap.size w w1 := bstep (by exact below_) hb side_; have hs1 : SumIs w1 (bs) _ := SumIs.below (by exact sum_) hb side_; have hcs1 := hs1.cell; have hfs1 := hs1.frozen; clear hs hb) | (go_at_call 70; (with_reducible refine (x_keep (lowI a.im 0 a.den) bs _ (by exact sum_)).mono ?_); rintro e w1 ⟨rfl, hu, hx⟩; have hs1 := hu _ (by exact sum_); clear hu; obtain ⟨hc, hf⟩ := bfxO hx (w.heap.size) (w.heap.size + 1 + 1) side_ side_; have hs2 := hx.size; (try simp only [World.size_alloc, World.size_setCell, World.size_drew, World.heap_drewN] at hs2); have hl : w.heap.size ≤ w1.heap.size ∧ w.heap.size < w1.heap.size ∧ w.heap.size + 1 < w1.heap.size := ⟨by omega, by omega, by omega⟩; have hcs1 := hs1.cell; have hfs1 := hs1.frozen; have hX : BelX w.heap.size bs w w1 := BelX.step (by exact belx_) hx side_; clear hs2 hx))
    exact bodyPost_ret (v := frv (vN (lowI a.im 0 a.den))) (by simp [results, Tryz.results87, go_sem, vN, zK, *]) rfl ⟨rfl, by exact sum_, by exact belx_⟩
theorem x_imag (a : Fr) (bs : Nat) (w : World) (hs : SumEx w bs) :
    Calls Tryz.prog 87 #[.pointer (some ⟨bs, 0, none⟩), frv a] w fun e w' => e = .returned (frv (vN (imagI a))) ∧ (∀ c, SumIs w bs c → SumIs w' bs (c || (imagI a).isNone)) ∧ BelX w.heap.size bs w w' := by
  obtain ⟨b0, hb⟩ := hs
  exact (s_imag a bs b0 w hb).mono fun e w' ⟨h1, h2, h3⟩ => ⟨h1, fun c hc => by rw [← hb.uniq hc]; exact h2, h3⟩
end Go.Proofs.YtkdggljioekkhaaGreatDoor
