/-
  The walks of the drawers: from any bytes, each draws some argument, and makes new memory only.
-/
import Derived.Test.YtejpbdgblpehnaaDoorDr
namespace Go.Proofs.YtejpbdgblpehnaaDoor
set_option linter.unusedSimpArgs false
set_option linter.unusedVariables false
open Go.RowKit
/-- A slice of bytes that lies in the world. -/
def Bytes (A : Option Addr) (len cap : Nat) (w : World) : Prop := len ≤ cap ∧ cap ≤ 9223372036854775807 ∧
  (0 < len → ∃ bb off : Nat, A = some ⟨bb, off, none⟩ ∧ bb < w.heap.size ∧ ∀ i, i < len → ∃ x : Int, w.cell? ⟨bb, off + i, none⟩ = some (.int .u8 x) ∧ 0 ≤ x ∧ x ≤ 255)
theorem Bytes.below {A : Option Addr} {len cap : Nat} {w w' : World} (h : Bytes A len cap w) (hb : Below w.heap.size w w') : Bytes A len cap w' := by
  obtain ⟨h1, h2, h3⟩ := h
  refine ⟨h1, h2, fun h0 => ?_⟩
  obtain ⟨bb, off, e, hbb, hc⟩ := h3 h0
  have hs := hb.size
  refine ⟨bb, off, e, by omega, fun i hi => ?_⟩
  obtain ⟨x, hx, k0, k1⟩ := hc i hi
  exact ⟨x, (hb.cell (p := ⟨bb, off + i, none⟩) (show bb < w.heap.size from hbb)).trans hx, k0, k1⟩
theorem openB (A : Option Addr) (len cap : Nat) (w : World) (br : Nat) (hbr : br = w.heap.size) (h : Bytes A len cap w) :
    Calls Tryd.prog 18 #[.slice A len cap] w fun e w' => e = .returned (.pointer (some ⟨br, 0, none⟩)) ∧ RdIs w' br 0 ∧ Below w.heap.size w w' := by
  subst hbr
  exact open_any A len cap w h.1 h.2.1 h.2.2
set_option maxRecDepth 100000 in
set_option maxHeartbeats 1000000 in
theorem drawRatioVector_any (A : Option Addr) (len cap : Nat) (w : World) (hby : Bytes A len cap w) :
    Calls Tryd.prog 10 #[.slice A len cap] w fun e w' => ∃ x : Fr, e = .returned (frv x) ∧ Below w.heap.size w w' := by
  go_enter Tryd.func10, Tryd.ntmps10
  go_wp2_with (first | (go_at_call 18; (with_reducible refine (openB A len cap _ (w.heap.size + 1) (by first | omega | (simp; done) | (simp; omega)) (hby.below (by (repeat' (first | (with_reducible exact Below.refl _ _) | (with_reducible assumption) | (with_reducible refine Below.setCell ?_ (by first | omega | (simp; done) | (simp; omega)) _) | (with_reducible refine Below.alloc ?_ (by first | omega | (simp; done) | (simp; omega)) _) | (with_reducible refine below_drewN ?_ _) | (with_reducible refine Below.drew ?_)))))).mono ?_); rintro e w1 ⟨rfl, hr1, hb⟩; obtain ⟨hc, hf⟩ := bf hb (w.heap.size + 1) (by first | omega | (simp; done) | (simp; omega)); have hs := hb.size; have hs3 := hr1.lt; (try simp only [World.size_alloc, World.size_setCell, World.size_drew, World.heap_drewN] at hs); have hl : w.heap.size ≤ w1.heap.size ∧ w.heap.size < w1.heap.size ∧ w.heap.size + 1 < w1.heap.size := ⟨by omega, by omega, by omega⟩; have hB : Below w.heap.size w w1 := bstep (by (repeat' (first | (with_reducible exact Below.refl _ _) | (with_reducible assumption) | (with_reducible refine Below.setCell ?_ (by first | omega | (simp; done) | (simp; omega)) _) | (with_reducible refine Below.alloc ?_ (by first | omega | (simp; done) | (simp; omega)) _) | (with_reducible refine below_drewN ?_ _) | (with_reducible refine Below.drew ?_)))) hb (by first | omega | (simp; done) | (simp; omega)); clear hs hs3 hb) | (go_at_call 17; (with_reducible refine (dfrac_any (w.heap.size + 1) _ (by (repeat' (first | (with_reducible assumption) | (with_reducible exact RdIs.mono ‹RdIs _ _ _› (by omega)) | (with_reducible apply RdIs.alloc) | (with_reducible exact RdEx.of ‹RdIs _ _ _› (by omega)) | (with_reducible apply RdEx.alloc) | (with_reducible apply RdIs.far) | (with_reducible apply RdEx.far) | (with_reducible apply RdIs.drewN) | (with_reducible apply RdIs.drew) | (with_reducible apply RdEx.drewN) | (with_reducible apply RdEx.drew) | omega | (simp; done) | (simp; omega))))).mono ?_); rintro e w1 ⟨x, rfl, ⟨hu, hx⟩, hbd⟩; have hr1 := hu _ (by (repeat' (first | (with_reducible assumption) | (with_reducible exact RdIs.mono ‹RdIs _ _ _› (by omega)) | (with_reducible apply RdIs.alloc) | (with_reducible exact RdEx.of ‹RdIs _ _ _› (by omega)) | (with_reducible apply RdEx.alloc) | (with_reducible apply RdIs.far) | (with_reducible apply RdEx.far) | (with_reducible apply RdIs.drewN) | (with_reducible apply RdIs.drew) | (with_reducible apply RdEx.drewN) | (with_reducible apply RdEx.drew) | omega | (simp; done) | (simp; omega)))); clear hu; obtain ⟨hc, hf⟩ := bfxL hx (by first | omega | (simp; done) | (simp; omega)); obtain ⟨hc3, hf3⟩ := bfxU hx (w.heap.size + 1 + 1) (by first | omega | (simp; done) | (simp; omega)); have hs2 := hx.size; (try simp only [World.size_alloc, World.size_setCell, World.size_drew, World.heap_drewN] at hs2); have hl : w.heap.size ≤ w1.heap.size ∧ w.heap.size < w1.heap.size ∧ w.heap.size + 1 < w1.heap.size := ⟨by omega, by omega, by omega⟩; have hB : Below w.heap.size w w1 := (BelX.step (BelX.of (by (repeat' (first | (with_reducible exact Below.refl _ _) | (with_reducible assumption) | (with_reducible refine Below.setCell ?_ (by first | omega | (simp; done) | (simp; omega)) _) | (with_reducible refine Below.alloc ?_ (by first | omega | (simp; done) | (simp; omega)) _) | (with_reducible refine below_drewN ?_ _) | (with_reducible refine Below.drew ?_))))) hx (by first | omega | (simp; done) | (simp; omega))).below (by first | omega | (simp; done) | (simp; omega)); clear hs2 hx))
  exact bodyPost_ret (v := frv x) (by simp [results, Tryd.results10, go_sem, *]) rfl ⟨_, rfl, by (repeat' (first | (with_reducible exact Below.refl _ _) | (with_reducible assumption) | (with_reducible refine Below.setCell ?_ (by first | omega | (simp; done) | (simp; omega)) _) | (with_reducible refine Below.alloc ?_ (by first | omega | (simp; done) | (simp; omega)) _) | (with_reducible refine below_drewN ?_ _) | (with_reducible refine Below.drew ?_)))⟩
end Go.Proofs.YtejpbdgblpehnaaDoor
