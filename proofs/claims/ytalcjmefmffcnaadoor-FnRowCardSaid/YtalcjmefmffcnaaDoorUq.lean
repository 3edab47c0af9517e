/-
  The walks of the drawer of a station and of DrawMeterRow.
-/
import Derived.Test.YtalcjmefmffcnaaDoorDw
import Derived.Test.YtalcjmefmffcnaaDoorPj
import Derived.IntWalk
namespace Go.Proofs.YtalcjmefmffcnaaDoor
set_option linter.unusedSimpArgs false
set_option linter.unusedVariables false
open Go.RowKit
attribute [local go_sem ↓] Go.wp_at_zero Go.wp_at_succ
set_option maxRecDepth 100000 in
set_option maxHeartbeats 2000000 in
theorem dstation_any (br : Nat) (w : World) (hr : RdEx 3 w br) :
    Calls Tryd.prog 59 #[.pointer (some ⟨br, 0, none⟩)] w fun e w' => ∃ s : Sta, e = .returned (stv s) ∧ Drw 3 br w w' ∧ True := by
  obtain ⟨k, hr, hmin, hk⟩ := hr.min
  have hlt := hr.lt
  go_enter Tryd.func59, Tryd.ntmps59
  go_wp2_with (first | (go_at_call 87; (with_reducible refine (pick_any 4 br _ (by exact rd_) (by omega) (by omega)).mono ?_); rintro e w1 ⟨x, rfl, ⟨hu, hx⟩, hbd⟩; have hr1 := hu _ (by exact rd_); clear hu; obtain ⟨hc, hf⟩ := bfxO hx (w.heap.size) (w.heap.size + 1) side_ side_; have hs2 := hx.size; (try simp only [World.size_alloc, World.size_setCell, World.size_drew, World.heap_drewN] at hs2); have hl : w.heap.size ≤ w1.heap.size ∧ w.heap.size < w1.heap.size := ⟨by omega, by omega⟩; have hX : BelX w.heap.size br w w1 := BelX.step (by exact belx_) hx side_; clear hs2 hx) | (go_at_call 87; (with_reducible refine (pick_any 3 br _ (by exact rd_) (by omega) (by omega)).mono ?_); rintro e w1 ⟨y, rfl, ⟨hu, hx⟩, hbd⟩; have hr1 := hu _ (by exact rd_); clear hu; obtain ⟨hc, hf⟩ := bfxO hx (w.heap.size) (w.heap.size + 1) side_ side_; have hs2 := hx.size; (try simp only [World.size_alloc, World.size_setCell, World.size_drew, World.heap_drewN] at hs2); have hl : w.heap.size ≤ w1.heap.size ∧ w.heap.size < w1.heap.size := ⟨by omega, by omega⟩; have hX : BelX w.heap.size br w w1 := BelX.step (by exact belx_) hx side_; clear hs2 hx) | (go_at_call 87; (with_reducible refine (pick_any 2 br _ (by exact rd_) (by omega) (by omega)).mono ?_); rintro e w1 ⟨z, rfl, ⟨hu, hx⟩, hbd⟩; have hr1 := hu _ (by exact rd_); clear hu; obtain ⟨hc, hf⟩ := bfxO hx (w.heap.size) (w.heap.size + 1) side_ side_; have hs2 := hx.size; (try simp only [World.size_alloc, World.size_setCell, World.size_drew, World.heap_drewN] at hs2); have hl : w.heap.size ≤ w1.heap.size ∧ w.heap.size < w1.heap.size := ⟨by omega, by omega⟩; have hX : BelX w.heap.size br w w1 := BelX.step (by exact belx_) hx side_; clear hs2 hx))
  exact bodyPost_ret (v := stv ⟨x, 1 - y + z * 2⟩) (by simp [results, Tryd.results59, go_sem, *]) rfl ⟨⟨x, 1 - y + z * 2⟩, rfl, drw_mk hmin (by exact rd_) (by exact belx_), trivial⟩
set_option maxRecDepth 100000 in
set_option maxHeartbeats 2000000 in
theorem drawMeterRow_any (A : Option Addr) (len cap : Nat) (w : World) (hby : Bytes A len cap w) :
    Calls Tryd.prog 18 #[.slice A len cap] w fun e w' => ∃ s : Sta, e = .returned (stv s) ∧ Below w.heap.size w w' := by
  go_enter Tryd.func18, Tryd.ntmps18
  go_wp2_with (first | (go_at_call 60; (with_reducible refine (openB A len cap _ (w.heap.size + 1) side_ (hby.below (by exact below_))).mono ?_); rintro e w1 ⟨rfl, hr1, hb⟩; obtain ⟨hc, hf⟩ := bf hb (w.heap.size + 1) side_; have hs := hb.size; have hs3 := hr1.lt; (try simp only [World.size_alloc, World.size_setCell, World.size_drew, World.heap_drewN] at hs); have hl : w.heap.size ≤ w1.heap.size ∧ w.heap.size < w1.heap.size ∧ w.heap.size + 1 < w1.heap.size := ⟨by omega, by omega, by omega⟩; have hB : Below w.heap.size w w1 := bstep (by exact below_) hb side_; clear hs hs3 hb) | (go_at_call 59; (with_reducible refine (dstation_any (w.heap.size + 1) _ (by exact rd_)).mono ?_); rintro e w1 ⟨x, rfl, ⟨hu, hx⟩, hbd⟩; have hr1 := hu _ (by exact rd_); clear hu; obtain ⟨hc, hf⟩ := bfxL hx side_; obtain ⟨hc3, hf3⟩ := bfxU hx (w.heap.size + 1 + 1) side_; have hs2 := hx.size; (try simp only [World.size_alloc, World.size_setCell, World.size_drew, World.heap_drewN] at hs2); have hl : w.heap.size ≤ w1.heap.size ∧ w.heap.size < w1.heap.size ∧ w.heap.size + 1 < w1.heap.size := ⟨by omega, by omega, by omega⟩; have hB : Below w.heap.size w w1 := (BelX.step (BelX.of (by exact below_)) hx side_).below side_; clear hs2 hx))
  exact bodyPost_ret (v := stv x) (by simp [results, Tryd.results18, go_sem, *]) rfl ⟨_, rfl, by exact below_⟩
end Go.Proofs.YtalcjmefmffcnaaDoor
