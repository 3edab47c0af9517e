/-
  The walks of light in a fibre, program and reference.
-/
import Derived.Test.YtiagnnmnaakmoaaDoorFm
import Derived.Test.YtiagnnmnaakmoaaDoorNb
import Derived.Test.YtiagnnmnaakmoaaDoorFn
namespace Go.Proofs.YtiagnnmnaakmoaaDoor
set_option linter.unusedSimpArgs false
set_option linter.unusedVariables false
open Go.RowKit
attribute [local go_sem ↓] Go.wp_at_zero Go.wp_at_succ
def fibRunI (xs : List Sec) (v : Jn) : Option Jn := (fibMatI xs).bind fun m => mapplyI m v
theorem fibMat_o (A : Option Addr) (len cap : Nat) (xs : List Sec) (o : Option Mt) (w : World) (h : Secs A len cap xs w) (hO : GO w) (hZ : GZ w) (hT : GT w) (hS : GS w) (e : fibMatI xs = o) :
    Calls Tryd.prog 16 #[.slice A len cap] w fun e w' => e = .returned (mtb o) ∧ Below w.heap.size w w' := by rw [← e]; exact fibMat_any A len cap xs w h hO hZ hT hS
theorem sfibMat_o (A : Option Addr) (len cap : Nat) (xs : List Sec) (o : Option Mt) (w : World) (h : Secs A len cap xs w) (e : fibMatI xs = o) :
    Calls Tryd.prog 30 #[.slice A len cap] w fun e w' => e = .returned (mtb o) ∧ Below w.heap.size w w' := by rw [← e]; exact sfibMat_any A len cap xs w h
set_option maxRecDepth 100000 in
set_option maxHeartbeats 2000000 in
theorem fibRun_any (A : Option Addr) (len cap : Nat) (xs : List Sec) (v : Jn) (w : World) (h : Secs A len cap xs w) (hO : GO w) (hZ : GZ w) (hT : GT w) (hS : GS w) :
    Calls Tryd.prog 22 #[.slice A len cap, jnv v] w fun e w' => e = .returned (jnb (fibRunI xs v)) ∧ Below w.heap.size w w' := by
  have hV : ∀ w1, Below w.heap.size w w1 → Secs A len cap xs w1 := fun w1 hb => h.below hb
  cases hx : fibMatI xs with
  | none =>
    rw [show fibRunI xs v = none by simp [fibRunI, hx]]
    go_enter Tryd.func22, Tryd.ntmps22
    go_wp2_with (first | (go_at_call 16; (with_reducible refine (fibMat_o A len cap xs none _ (hV _ (by exact below_)) (hO.below (by exact below_)) (hZ.below (by exact below_)) (hT.below (by exact below_)) (hS.below (by exact below_)) hx).mono ?_); rintro e w1 ⟨rfl, hb⟩; obtain ⟨hc, hf⟩ := bf hb (w.heap.size + 1 + 1) side_; have hs := hb.size; (try simp only [World.size_alloc, World.size_setCell, World.size_drew, World.heap_drewN] at hs); have hl : w.heap.size ≤ w1.heap.size ∧ w.heap.size < w1.heap.size ∧ w.heap.size + 1 < w1.heap.size := ⟨by omega, by omega, by omega⟩; obtain ⟨B, hBe, hBl, hc2, hf2⟩ := bfA hb; (try simp only [World.size_alloc, World.size_setCell, World.size_drew, World.heap_drewN] at hBe); have hB : Below w.heap.size w w1 := bstep (by exact below_) hb side_; clear hs hb))
    exact bodyPost_ret (v := jnb none) (by simp [results, Tryd.results22, go_sem, *]) rfl ⟨rfl, by exact below_⟩
  | some m =>
    rw [show fibRunI xs v = mapplyI m v by simp [fibRunI, hx]]
    go_enter Tryd.func22, Tryd.ntmps22
    go_wp2_with (first | (go_at_call 16; (with_reducible refine (fibMat_o A len cap xs (some m) _ (hV _ (by exact below_)) (hO.below (by exact below_)) (hZ.below (by exact below_)) (hT.below (by exact below_)) (hS.below (by exact below_)) hx).mono ?_); rintro e w1 ⟨rfl, hb⟩; obtain ⟨hc, hf⟩ := bf hb (w.heap.size + 1 + 1) side_; have hs := hb.size; (try simp only [World.size_alloc, World.size_setCell, World.size_drew, World.heap_drewN] at hs); have hl : w.heap.size ≤ w1.heap.size ∧ w.heap.size < w1.heap.size ∧ w.heap.size + 1 < w1.heap.size := ⟨by omega, by omega, by omega⟩; obtain ⟨B, hBe, hBl, hc2, hf2⟩ := bfA hb; (try simp only [World.size_alloc, World.size_setCell, World.size_drew, World.heap_drewN] at hBe); have hB : Below w.heap.size w w1 := bstep (by exact below_) hb side_; clear hs hb) | (go_at_call 17; (with_reducible refine (mapply_any m v _).mono ?_); rintro e w1 ⟨rfl, hb⟩; obtain ⟨hc, hf⟩ := bf hb (w.heap.size + 1 + 1) side_; have hs := hb.size; (try simp only [World.size_alloc, World.size_setCell, World.size_drew, World.heap_drewN] at hs); have hl : w.heap.size ≤ w1.heap.size ∧ w.heap.size < w1.heap.size ∧ w.heap.size + 1 < w1.heap.size := ⟨by omega, by omega, by omega⟩; obtain ⟨B, hBe, hBl, hc2, hf2⟩ := bfA hb; (try simp only [World.size_alloc, World.size_setCell, World.size_drew, World.heap_drewN] at hBe); have hB : Below w.heap.size w w1 := bstep (by exact below_) hb side_; clear hs hb))
    exact bodyPost_ret (v := jnb (mapplyI m v)) (by simp [results, Tryd.results22, go_sem, *]) rfl ⟨rfl, by exact below_⟩
set_option maxRecDepth 100000 in
set_option maxHeartbeats 2000000 in
theorem sfibRun_any (A : Option Addr) (len cap : Nat) (xs : List Sec) (v : Jn) (w : World) (h : Secs A len cap xs w) :
    Calls Tryd.prog 23 #[.slice A len cap, jnv v] w fun e w' => e = .returned (jnb (fibRunI xs v)) ∧ Below w.heap.size w w' := by
  have hV : ∀ w1, Below w.heap.size w w1 → Secs A len cap xs w1 := fun w1 hb => h.below hb
  cases hx : fibMatI xs with
  | none =>
    rw [show fibRunI xs v = none by simp [fibRunI, hx]]
    go_enter Tryd.func23, Tryd.ntmps23
    go_wp2_with (first | (go_at_call 30; (with_reducible refine (sfibMat_o A len cap xs none _ (hV _ (by exact below_)) hx).mono ?_); rintro e w1 ⟨rfl, hb⟩; obtain ⟨hc, hf⟩ := bf hb (w.heap.size + 1 + 1) side_; have hs := hb.size; (try simp only [World.size_alloc, World.size_setCell, World.size_drew, World.heap_drewN] at hs); have hl : w.heap.size ≤ w1.heap.size ∧ w.heap.size < w1.heap.size ∧ w.heap.size + 1 < w1.heap.size := ⟨by omega, by omega, by omega⟩; obtain ⟨B, hBe, hBl, hc2, hf2⟩ := bfA hb; (try simp only [World.size_alloc, World.size_setCell, World.size_drew, World.heap_drewN] at hBe); have hB : Below w.heap.size w w1 := bstep (by exact below_) hb side_; clear hs hb))
    exact bodyPost_ret (v := jnb none) (by simp [results, Tryd.results23, go_sem, *]) rfl ⟨rfl, by exact below_⟩
  | some m =>
    rw [show fibRunI xs v = mapplyI m v by simp [fibRunI, hx]]
    go_enter Tryd.func23, Tryd.ntmps23
    go_wp2_with (first | (go_at_call 30; (with_reducible refine (sfibMat_o A len cap xs (some m) _ (hV _ (by exact below_)) hx).mono ?_); rintro e w1 ⟨rfl, hb⟩; obtain ⟨hc, hf⟩ := bf hb (w.heap.size + 1 + 1) side_; have hs := hb.size; (try simp only [World.size_alloc, World.size_setCell, World.size_drew, World.heap_drewN] at hs); have hl : w.heap.size ≤ w1.heap.size ∧ w.heap.size < w1.heap.size ∧ w.heap.size + 1 < w1.heap.size := ⟨by omega, by omega, by omega⟩; obtain ⟨B, hBe, hBl, hc2, hf2⟩ := bfA hb; (try simp only [World.size_alloc, World.size_setCell, World.size_drew, World.heap_drewN] at hBe); have hB : Below w.heap.size w w1 := bstep (by exact below_) hb side_; clear hs hb) | (go_at_call 53; (with_reducible refine (smapply_any m v _).mono ?_); rintro e w1 ⟨rfl, hb⟩; obtain ⟨hc, hf⟩ := bf hb (w.heap.size + 1 + 1) side_; have hs := hb.size; (try simp only [World.size_alloc, World.size_setCell, World.size_drew, World.heap_drewN] at hs); have hl : w.heap.size ≤ w1.heap.size ∧ w.heap.size < w1.heap.size ∧ w.heap.size + 1 < w1.heap.size := ⟨by omega, by omega, by omega⟩; obtain ⟨B, hBe, hBl, hc2, hf2⟩ := bfA hb; (try simp only [World.size_alloc, World.size_setCell, World.size_drew, World.heap_drewN] at hBe); have hB : Below w.heap.size w w1 := bstep (by exact below_) hb side_; clear hs hb))
    exact bodyPost_ret (v := jnb (mapplyI m v)) (by simp [results, Tryd.results23, go_sem, *]) rfl ⟨rfl, by exact below_⟩
end Go.Proofs.YtiagnnmnaakmoaaDoor
