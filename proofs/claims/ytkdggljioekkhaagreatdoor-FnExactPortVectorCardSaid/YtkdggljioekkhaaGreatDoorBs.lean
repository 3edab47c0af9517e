/-
  The walks of shares, and of the matrices of pieces, program's side.
-/
import Derived.Test.YtkdggljioekkhaaGreatDoorBm
import Derived.Test.YtkdggljioekkhaaGreatDoorBc
import Derived.Test.YtkdggljioekkhaaGreatDoorNf
import Derived.Test.YtkdggljioekkhaaGreatDoorBq
import Derived.Test.YtkdggljioekkhaaGreatDoorBi
namespace Go.Proofs.YtkdggljioekkhaaGreatDoor
set_option linter.unusedSimpArgs false
set_option linter.unusedVariables false
open Go.RowKit
attribute [local go_sem ↓] Go.wp_at_zero Go.wp_at_succ
def NP2 (b g cap : Nat) (k n0 n1 : Int) (w' : World) : Prop := w'.cell? ⟨b, 0, none⟩ = some (.int .u8 k) ∧ w'.cell? ⟨b, 1, none⟩ = some (.slice (some ⟨g, 0, none⟩) 2 cap) ∧ w'.cell? ⟨g, 0, none⟩ = some (.int .i64 n0) ∧ w'.cell? ⟨g, 1, none⟩ = some (.int .i64 n1)
theorem NP2.of {b g cap : Nat} {k n0 n1 : Int} {w W : World} (h : NP2 b g cap k n0 n1 w) (h1 : b < w.heap.size) (h2 : g < w.heap.size) (hb : Below w.heap.size w W) : NP2 b g cap k n0 n1 W := ⟨(hb.cell (p := ⟨_, _, _⟩) h1).trans h.1, (hb.cell (p := ⟨_, _, _⟩) h1).trans h.2.1, (hb.cell (p := ⟨_, _, _⟩) h2).trans h.2.2.1, (hb.cell (p := ⟨_, _, _⟩) h2).trans h.2.2.2⟩
def NP3 (b g cap : Nat) (k n0 n1 n2 : Int) (w' : World) : Prop := w'.cell? ⟨b, 0, none⟩ = some (.int .u8 k) ∧ w'.cell? ⟨b, 1, none⟩ = some (.slice (some ⟨g, 0, none⟩) 3 cap) ∧ w'.cell? ⟨g, 0, none⟩ = some (.int .i64 n0) ∧ w'.cell? ⟨g, 1, none⟩ = some (.int .i64 n1) ∧ w'.cell? ⟨g, 2, none⟩ = some (.int .i64 n2)
theorem NP3.of {b g cap : Nat} {k n0 n1 n2 : Int} {w W : World} (h : NP3 b g cap k n0 n1 n2 w) (h1 : b < w.heap.size) (h2 : g < w.heap.size) (hb : Below w.heap.size w W) : NP3 b g cap k n0 n1 n2 W := ⟨(hb.cell (p := ⟨_, _, _⟩) h1).trans h.1, (hb.cell (p := ⟨_, _, _⟩) h1).trans h.2.1, (hb.cell (p := ⟨_, _, _⟩) h2).trans h.2.2.1, (hb.cell (p := ⟨_, _, _⟩) h2).trans h.2.2.2.1, (hb.cell (p := ⟨_, _, _⟩) h2).trans h.2.2.2.2⟩
theorem far12 {W : World} {r b o : Nat} {v0 v1 v2 v3 v4 v5 v6 v7 v8 v9 v10 v11 : Value} (hb : b ≠ r) : (((((((((((((W.setCell ⟨r, 0, none⟩ v0).setCell ⟨r, 1, none⟩ v1).setCell ⟨r, 2, none⟩ v2).setCell ⟨r, 3, none⟩ v3).setCell ⟨r, 4, none⟩ v4).setCell ⟨r, 5, none⟩ v5).setCell ⟨r, 6, none⟩ v6).setCell ⟨r, 7, none⟩ v7).setCell ⟨r, 8, none⟩ v8).setCell ⟨r, 9, none⟩ v9).setCell ⟨r, 10, none⟩ v10).setCell ⟨r, 11, none⟩ v11)).cell? ⟨b, o, none⟩ = W.cell? ⟨b, o, none⟩ := World.cell?_of_block ((Below.heap_setCell _ _ _ b hb).trans ((Below.heap_setCell _ _ _ b hb).trans ((Below.heap_setCell _ _ _ b hb).trans ((Below.heap_setCell _ _ _ b hb).trans ((Below.heap_setCell _ _ _ b hb).trans ((Below.heap_setCell _ _ _ b hb).trans ((Below.heap_setCell _ _ _ b hb).trans ((Below.heap_setCell _ _ _ b hb).trans ((Below.heap_setCell _ _ _ b hb).trans ((Below.heap_setCell _ _ _ b hb).trans ((Below.heap_setCell _ _ _ b hb).trans (Below.heap_setCell _ _ _ b hb))))))))))))
theorem NP2.set {b g cap : Nat} {k n0 n1 : Int} {W : World} (h : NP2 b g cap k n0 n1 W) {r : Nat} (h1 : b ≠ r) (h2 : g ≠ r) (v0 v1 v2 v3 v4 v5 v6 v7 v8 v9 v10 v11 : Value) : NP2 b g cap k n0 n1 (((((((((((((W.setCell ⟨r, 0, none⟩ v0).setCell ⟨r, 1, none⟩ v1).setCell ⟨r, 2, none⟩ v2).setCell ⟨r, 3, none⟩ v3).setCell ⟨r, 4, none⟩ v4).setCell ⟨r, 5, none⟩ v5).setCell ⟨r, 6, none⟩ v6).setCell ⟨r, 7, none⟩ v7).setCell ⟨r, 8, none⟩ v8).setCell ⟨r, 9, none⟩ v9).setCell ⟨r, 10, none⟩ v10).setCell ⟨r, 11, none⟩ v11)) :=
  ⟨(far12 h1).trans h.1, (far12 h1).trans h.2.1, (far12 h2).trans h.2.2.1, (far12 h2).trans h.2.2.2⟩
theorem NP3.set {b g cap : Nat} {k n0 n1 n2 : Int} {W : World} (h : NP3 b g cap k n0 n1 n2 W) {r : Nat} (h1 : b ≠ r) (h2 : g ≠ r) (v0 v1 v2 v3 v4 v5 v6 v7 v8 v9 v10 v11 : Value) : NP3 b g cap k n0 n1 n2 (((((((((((((W.setCell ⟨r, 0, none⟩ v0).setCell ⟨r, 1, none⟩ v1).setCell ⟨r, 2, none⟩ v2).setCell ⟨r, 3, none⟩ v3).setCell ⟨r, 4, none⟩ v4).setCell ⟨r, 5, none⟩ v5).setCell ⟨r, 6, none⟩ v6).setCell ⟨r, 7, none⟩ v7).setCell ⟨r, 8, none⟩ v8).setCell ⟨r, 9, none⟩ v9).setCell ⟨r, 10, none⟩ v10).setCell ⟨r, 11, none⟩ v11)) :=
  ⟨(far12 h1).trans h.1, (far12 h1).trans h.2.1, (far12 h2).trans h.2.2.1, (far12 h2).trans h.2.2.2.1, (far12 h2).trans h.2.2.2.2⟩
theorem blk_free0 {W : World} {ty : TypeId} {b : Nat} {cs : Array Value} (h : Blk W b cs ty) (o : Nat) : W.frozen? ⟨b, o, none⟩ = false := by simp [World.frozen?, h]
set_option maxHeartbeats 4000000 in
theorem share_any (k : Int) (nv : Value) (b : ByteArray) (n0 n1 : Int) (w : World) (hn : NumsAt w nv [n0, n1]) (h1 : 1 ≤ n1) (h2 : n1 ≤ 100) (h3 : 0 ≤ n0) (h4 : n0 ≤ n1) :
    Calls Tryz.prog 121 #[.agg #[.int .u8 k, nv, .string b]] w fun e w' => e = .returned (frv (shareF n0 n1)) ∧ Below w.heap.size w w' := by
  obtain ⟨g, cap, rfl, hcap, hcm, hlt, hc⟩ := hn
  have c0 := hc 0 n0 rfl
  have c1 := hc 1 n1 rfl
  have hcap2 : 2 ≤ cap := hcap
  clear hc hcap
  obtain ⟨W0, hW0, hC, hR, hB0, hpl, hgl⟩ : ∃ W, W = (w.alloc (.cells #[.int .u8 k, .slice (some ⟨g, 0, none⟩) 2 cap, .string b] 115)).alloc (.cells #[.int .i64 0, .int .i64 0, .int .i64 0] 26) ∧ NP2 w.heap.size g cap k n0 n1 W ∧ Blk W (w.heap.size + 1) (frc ⟨0, 0, 0⟩) 26 ∧ Below w.heap.size w W ∧ w.heap.size < W.heap.size ∧ g < W.heap.size := by
    have hb : Below w.heap.size w ((w.alloc (.cells #[.int .u8 k, .slice (some ⟨g, 0, none⟩) 2 cap, .string b] 115)).alloc (.cells #[.int .i64 0, .int .i64 0, .int .i64 0] 26)) := by exact below_
    refine ⟨_, rfl, ⟨?_, ?_, (hb.cell (p := ⟨_, _, _⟩) hlt).trans c0, (hb.cell (p := ⟨_, _, _⟩) hlt).trans c1⟩, ?_, hb, by simp; omega, by simp; omega⟩
    · exact (((Below.refl _ _).alloc (Nat.le_refl _) _).cell (p := ⟨_, _, _⟩) (by simp)).trans (World.cell?_alloc_at _ _ _ _ rfl)
    · exact (((Below.refl _ _).alloc (Nat.le_refl _) _).cell (p := ⟨_, _, _⟩) (by simp)).trans (World.cell?_alloc_at _ _ _ _ rfl)
    · have := heap_alloc_last (w.alloc (.cells #[.int .u8 k, .slice (some ⟨g, 0, none⟩) 2 cap, .string b] 115)) (.cells (frc ⟨0, 0, 0⟩) 26)
      rwa [World.size_alloc] at this
  obtain ⟨p0, p1, d0, d1⟩ := hC
  have hC : NP2 w.heap.size g cap k n0 n1 W0 := ⟨p0, p1, d0, d1⟩
  clear c0 c1
  go_enter Tryz.func121, Tryz.ntmps121
  go_upto_region 1 with fail
  rw [← hW0]
  clear hW0
  go_cut [3, 4] from 5 to 16 (fun s3 _ wx => ∃ b3, s3 = .pointer (some ⟨b3, 0, none⟩) ∧ (wx.cell? ⟨b3, 0, none⟩ = some (.int .i64 (shareF n0 n1).re) ∧ wx.cell? ⟨b3, 1, none⟩ = some (.int .i64 (shareF n0 n1).im) ∧ wx.cell? ⟨b3, 2, none⟩ = some (.int .i64 (shareF n0 n1).den)) ∧ Below W0.heap.size W0 wx)
  case first =>
    go_region_held3 (fun w' => w'.cell? ⟨w.heap.size, 0, none⟩ = some (.int .u8 k) ∧ w'.cell? ⟨w.heap.size, 1, none⟩ = some (.slice (some ⟨g, 0, none⟩) 2 cap) ∧ w'.cell? ⟨g, 0, none⟩ = some (.int .i64 n0) ∧ w'.cell? ⟨g, 1, none⟩ = some (.int .i64 n1)) ((refine hC.of hpl hgl ?_; (repeat' (first | (with_reducible exact Below.refl _ _) | (with_reducible assumption) | (with_reducible refine Below.setCell ?_ (by first | omega | (simp; done) | (simp; omega)) _) | (with_reducible refine Below.alloc ?_ (by first | omega | (simp; done) | (simp; omega)) _) | (with_reducible refine below_drewN ?_ _) | (with_reducible refine Below.drew ?_))))) (first | (go_at_call 79; (with_reducible refine (lowest_any n0 0 n1 _ (by omega) (by omega) (by omega) (by omega) (by omega) (by omega)).mono ?_); rintro e w1 ⟨rfl, hb⟩; obtain ⟨hc, hf⟩ := bf hb (W0.heap.size) side_; have hs := hb.size; (try simp only [World.size_alloc, World.size_setCell, World.size_drew, World.heap_drewN] at hs); have hl : W0.heap.size ≤ w1.heap.size := (by omega); obtain ⟨B, hBe, hBl, hc2, hf2⟩ := bfA hb; (try simp only [World.size_alloc, World.size_setCell, World.size_drew, World.heap_drewN] at hBe); have hB : Below W0.heap.size W0 w1 := bstep (by exact below_) hb side_; clear hs hb))
    all_goals (go_wp2; go_meet; exact ⟨_, rfl, (by refine ⟨?_, ?_, ?_⟩ <;> (first | (with_reducible exact World.cell?_alloc_at _ _ _ _ rfl) | (simp [shareF, go_sem, *]; done))), by exact below_⟩)
  case rest =>
    obtain ⟨b3, rfl, ⟨f0, f1, f2⟩, hB⟩ := hcut
    have hR2 := (hB.block _ (blk_lt hR)).trans hR
    obtain ⟨r0, r1, r2⟩ := blk_fr0 hR2
    have g0 := blk_free0 hR2 0
    have g1 := blk_free0 hR2 1
    have g2 := blk_free0 hR2 2
    have hBw := bstep hB0 hB hB0.size
    go_wp2
    exact bodyPost_ret (v := frv (shareF n0 n1)) (by simp [results, Tryz.results121, go_sem, *]) rfl ⟨rfl, by exact below_⟩
theorem mat_out {W : World} {r : Nat} {ty : TypeId} (h : Blk W r (mtc ⟨zK, zK, zK, zK⟩) ty) : (∀ o, o < 12 → W.cell? ⟨r, o, none⟩ = some (.int .i64 0)) ∧ ∀ o, W.frozen? ⟨r, o, none⟩ = false := by
  refine ⟨fun o ho => ?_, fun o => ?_⟩
  · have : (mtc ⟨zK, zK, zK, zK⟩)[o]? = some (.int .i64 0) := by
      match o, ho with
      | 0, _ => rfl | 1, _ => rfl | 2, _ => rfl | 3, _ => rfl | 4, _ => rfl | 5, _ => rfl | 6, _ => rfl | 7, _ => rfl | 8, _ => rfl | 9, _ => rfl | 10, _ => rfl | 11, _ => rfl
    rw [cell_of_row W r o _ _ _ h]; exact this
  · simp [World.frozen?, h]
theorem NP2.after {b g cap : Nat} {k n0 n1 : Int} {W : World} (h : NP2 b g cap k n0 n1 W) {r : Nat} (h1 : b ≠ r) (h2 : g ≠ r) (v0 v1 v2 v3 v4 v5 v6 v7 v8 v9 v10 v11 : Value) : (fun w' => w'.cell? ⟨b, 0, none⟩ = some (.int .u8 k) ∧ w'.cell? ⟨b, 1, none⟩ = some (.slice (some ⟨g, 0, none⟩) 2 cap) ∧ w'.cell? ⟨g, 0, none⟩ = some (.int .i64 n0) ∧ w'.cell? ⟨g, 1, none⟩ = some (.int .i64 n1)) (((((((((((((W.setCell ⟨r, 0, none⟩ v0).setCell ⟨r, 1, none⟩ v1).setCell ⟨r, 2, none⟩ v2).setCell ⟨r, 3, none⟩ v3).setCell ⟨r, 4, none⟩ v4).setCell ⟨r, 5, none⟩ v5).setCell ⟨r, 6, none⟩ v6).setCell ⟨r, 7, none⟩ v7).setCell ⟨r, 8, none⟩ v8).setCell ⟨r, 9, none⟩ v9).setCell ⟨r, 10, none⟩ v10).setCell ⟨r, 11, none⟩ v11)) := h.set h1 h2 v0 v1 v2 v3 v4 v5 v6 v7 v8 v9 v10 v11
theorem NP3.after {b g cap : Nat} {k n0 n1 n2 : Int} {W : World} (h : NP3 b g cap k n0 n1 n2 W) {r : Nat} (h1 : b ≠ r) (h2 : g ≠ r) (v0 v1 v2 v3 v4 v5 v6 v7 v8 v9 v10 v11 : Value) : (fun w' => w'.cell? ⟨b, 0, none⟩ = some (.int .u8 k) ∧ w'.cell? ⟨b, 1, none⟩ = some (.slice (some ⟨g, 0, none⟩) 3 cap) ∧ w'.cell? ⟨g, 0, none⟩ = some (.int .i64 n0) ∧ w'.cell? ⟨g, 1, none⟩ = some (.int .i64 n1) ∧ w'.cell? ⟨g, 2, none⟩ = some (.int .i64 n2)) (((((((((((((W.setCell ⟨r, 0, none⟩ v0).setCell ⟨r, 1, none⟩ v1).setCell ⟨r, 2, none⟩ v2).setCell ⟨r, 3, none⟩ v3).setCell ⟨r, 4, none⟩ v4).setCell ⟨r, 5, none⟩ v5).setCell ⟨r, 6, none⟩ v6).setCell ⟨r, 7, none⟩ v7).setCell ⟨r, 8, none⟩ v8).setCell ⟨r, 9, none⟩ v9).setCell ⟨r, 10, none⟩ v10).setCell ⟨r, 11, none⟩ v11)) := h.set h1 h2 v0 v1 v2 v3 v4 v5 v6 v7 v8 v9 v10 v11
def NA (pb g cap : Nat) (k : Int) (b : ByteArray) (w' : World) : Prop := (w'.cell? ⟨pb, 0, none⟩ = some (.int .u8 k) ∧ w'.cell? ⟨pb, 1, none⟩ = some (.slice (some ⟨g, 0, none⟩) 2 cap) ∧ w'.cell? ⟨pb, 2, none⟩ = some (.string b)) ∧ (w'.cell? ⟨0, 0, none⟩ = some (.int .i64 0) ∧ w'.cell? ⟨0, 1, none⟩ = some (.int .i64 0) ∧ w'.cell? ⟨0, 2, none⟩ = some (.int .i64 1))
theorem NA.of {pb g cap : Nat} {k : Int} {b : ByteArray} {w W : World} (h : NA pb g cap k b w) (h1 : pb < w.heap.size) (h2 : 0 < w.heap.size) (hb : Below w.heap.size w W) : NA pb g cap k b W :=
  ⟨⟨(hb.cell (p := ⟨_, _, _⟩) h1).trans h.1.1, (hb.cell (p := ⟨_, _, _⟩) h1).trans h.1.2.1, (hb.cell (p := ⟨_, _, _⟩) h1).trans h.1.2.2⟩, (hb.cell (p := ⟨_, _, _⟩) h2).trans h.2.1, (hb.cell (p := ⟨_, _, _⟩) h2).trans h.2.2.1, (hb.cell (p := ⟨_, _, _⟩) h2).trans h.2.2.2⟩
theorem NA.after {w : World} {g cap : Nat} {k : Int} {b : ByteArray} {W : World} (h : NA w.heap.size g cap k b W) {r : Nat} (h1 : w.heap.size ≠ r) (h2 : 0 ≠ r) (v0 v1 v2 v3 v4 v5 v6 v7 v8 v9 v10 v11 : Value) : (fun w' => (w'.cell? ⟨w.heap.size, 0, none⟩ = some (.int .u8 k) ∧ w'.cell? ⟨w.heap.size, 1, none⟩ = some (.slice (some ⟨g, 0, none⟩) 2 cap) ∧ w'.cell? ⟨w.heap.size, 2, none⟩ = some (.string b)) ∧ (w'.cell? ⟨0, 0, none⟩ = some (.int .i64 0) ∧ w'.cell? ⟨0, 1, none⟩ = some (.int .i64 0) ∧ w'.cell? ⟨0, 2, none⟩ = some (.int .i64 1))) (((((((((((((W.setCell ⟨r, 0, none⟩ v0).setCell ⟨r, 1, none⟩ v1).setCell ⟨r, 2, none⟩ v2).setCell ⟨r, 3, none⟩ v3).setCell ⟨r, 4, none⟩ v4).setCell ⟨r, 5, none⟩ v5).setCell ⟨r, 6, none⟩ v6).setCell ⟨r, 7, none⟩ v7).setCell ⟨r, 8, none⟩ v8).setCell ⟨r, 9, none⟩ v9).setCell ⟨r, 10, none⟩ v10).setCell ⟨r, 11, none⟩ v11)) :=
  ⟨⟨(far12 h1).trans h.1.1, (far12 h1).trans h.1.2.1, (far12 h1).trans h.1.2.2⟩, (far12 h2).trans h.2.1, (far12 h2).trans h.2.2.1, (far12 h2).trans h.2.2.2⟩
set_option maxRecDepth 100000 in
set_option maxHeartbeats 8000000 in
theorem mat_r (nv : Value) (b : ByteArray) (n0 n1 : Int) (m : Mt) (ok : Bool) (w : World) (hn : NumsAt w nv [n0, n1]) (hm : Hid ((rotI n0 n1).getD Z12 = m ∧ (rotI n0 n1).isSome = ok)) :
    Calls Tryz.prog 102 #[.agg #[.int .u8 114, nv, .string b]] w fun e w' => e = .returned (.tuple #[mtv m, .bool ok]) ∧ Below w.heap.size w w' := by
  have hcon : ∀ w, Calls Tryz.prog 118 #[.int .i64 n0, .int .i64 n1] w fun e w' => e = .returned (.tuple #[mtv m, .bool ok]) ∧ Below w.heap.size w w' := fun w => by
    rw [← hm.out.1, ← hm.out.2]; exact rot_any n0 n1 w
  obtain ⟨k, hk⟩ : ∃ k : Int, k = 114 := ⟨_, rfl⟩
  rw [← hk]
  obtain ⟨g, cap, rfl, hcap, hcm, hlt, hc⟩ := hn
  have c0 := hc 0 n0 rfl
  have c1 := hc 1 n1 rfl
  have hcap2 : 2 ≤ cap := hcap
  clear hc hcap
  obtain ⟨W0, hW0, hC, hR, hB0, hpl, hgl, hrl, hgr, ht2⟩ : ∃ W, W = (w.alloc (.cells #[.int .u8 k, .slice (some ⟨g, 0, none⟩) 2 cap, .string b] 115)).alloc (.cells #[.int .i64 0, .int .i64 0, .int .i64 0, .int .i64 0, .int .i64 0, .int .i64 0, .int .i64 0, .int .i64 0, .int .i64 0, .int .i64 0, .int .i64 0, .int .i64 0] 85) ∧ NP2 w.heap.size g cap k n0 n1 W ∧ Blk W (w.heap.size + 1) (mtc ⟨zK, zK, zK, zK⟩) 85 ∧ Below w.heap.size w W ∧ w.heap.size < W.heap.size ∧ g < W.heap.size ∧ w.heap.size + 1 < W.heap.size ∧ g ≠ w.heap.size + 1 ∧ W.cell? ⟨w.heap.size, 2, none⟩ = some (.string b) := by
    have hb : Below w.heap.size w ((w.alloc (.cells #[.int .u8 k, .slice (some ⟨g, 0, none⟩) 2 cap, .string b] 115)).alloc (.cells #[.int .i64 0, .int .i64 0, .int .i64 0, .int .i64 0, .int .i64 0, .int .i64 0, .int .i64 0, .int .i64 0, .int .i64 0, .int .i64 0, .int .i64 0, .int .i64 0] 85)) := by exact below_
    refine ⟨_, rfl, ⟨?_, ?_, (hb.cell (p := ⟨_, _, _⟩) hlt).trans c0, (hb.cell (p := ⟨_, _, _⟩) hlt).trans c1⟩, ?_, hb, by simp; omega, by simp; omega, by simp, by omega, ?_⟩
    · exact (((Below.refl _ _).alloc (Nat.le_refl _) _).cell (p := ⟨_, _, _⟩) (by simp)).trans (World.cell?_alloc_at _ _ _ _ rfl)
    · exact (((Below.refl _ _).alloc (Nat.le_refl _) _).cell (p := ⟨_, _, _⟩) (by simp)).trans (World.cell?_alloc_at _ _ _ _ rfl)
    · have := heap_alloc_last (w.alloc (.cells #[.int .u8 k, .slice (some ⟨g, 0, none⟩) 2 cap, .string b] 115)) (.cells (mtc ⟨zK, zK, zK, zK⟩) 85)
      rwa [World.size_alloc] at this
    · exact (((Below.refl _ _).alloc (Nat.le_refl _) _).cell (p := ⟨_, _, _⟩) (by simp)).trans (World.cell?_alloc_at _ _ _ _ rfl)
  obtain ⟨p0, p1, d0, d1⟩ := hC
  have hC : NP2 w.heap.size g cap k n0 n1 W0 := ⟨p0, p1, d0, d1⟩
  have hpr : w.heap.size ≠ w.heap.size + 1 := by omega
  clear c0 c1
  have HK := Lib.hid hk
  have k1 : (k == 114) = true := by rw [hk]; rfl
  have k2 : (k == 119) = false := by rw [hk]; rfl
  have k3 : (k == 102) = false := by rw [hk]; rfl
  have k4 : (k == 97) = false := by rw [hk]; rfl
  clear hk
  go_enter Tryz.func102, Tryz.ntmps102
  go_upto_region 3 with fail
  rw [← hW0]
  clear hW0
  go_region_held3 (fun w' => w'.cell? ⟨w.heap.size, 0, none⟩ = some (.int .u8 k) ∧ w'.cell? ⟨w.heap.size, 1, none⟩ = some (.slice (some ⟨g, 0, none⟩) 2 cap) ∧ w'.cell? ⟨g, 0, none⟩ = some (.int .i64 n0) ∧ w'.cell? ⟨g, 1, none⟩ = some (.int .i64 n1)) ((first | (refine hC.of hpl hgl ?_; with_reducible first | assumption | exact Below.drew (by assumption) | exact Below.refl _ _ | exact Below.drew (Below.refl _ _)) | (exact NP2.after (hC.of hpl hgl (by with_reducible assumption)) hpr hgr _ _ _ _ _ _ _ _ _ _ _ _))) (first | (go_at_call 118; (with_reducible refine (hcon _).mono ?_); rintro e w1 ⟨rfl, hb⟩; have hB : Below W0.heap.size W0 w1 := bstep (by (repeat' (first | (with_reducible exact Below.refl _ _) | (with_reducible assumption) | (with_reducible refine Below.setCell ?_ (by first | omega | (simp; done) | (simp; omega)) _) | (with_reducible refine Below.alloc ?_ (by first | omega | (simp; done) | (simp; omega)) _) | (with_reducible refine below_drewN ?_ _) | (with_reducible refine Below.drew ?_)))) hb side_; have hMr := (hB.block _ hrl).trans hR; obtain ⟨ho1, ho2⟩ := mat_out hMr; have k0 := ho1 0 (by decide); have k1 := ho1 1 (by decide); have k2 := ho1 2 (by decide); have k3 := ho1 3 (by decide); have k4 := ho1 4 (by decide); have k5 := ho1 5 (by decide); have k6 := ho1 6 (by decide); have k7 := ho1 7 (by decide); have k8 := ho1 8 (by decide); have k9 := ho1 9 (by decide); have k10 := ho1 10 (by decide); have k11 := ho1 11 (by decide); clear ho1 hb hMr))
  have hBw : Below w.heap.size w w1 := bstep hB0 hB hB0.size
  (try go_wp2)
  exact bodyPost_ret (v := .tuple #[mtv m, .bool ok]) (by simp [results, Tryz.results102, mtv, go_sem, *]) rfl ⟨rfl, by exact below_⟩
set_option maxRecDepth 100000 in
set_option maxHeartbeats 8000000 in
theorem mat_w (nv : Value) (b : ByteArray) (n0 n1 n2 : Int) (m : Mt) (ok : Bool) (w : World) (hn : NumsAt w nv [n0, n1, n2]) (hO : GO w) (hZ : GZ w) (hT : GT w) (hm : Hid ((plateI n0 n1 n2).getD Z12 = m ∧ (plateI n0 n1 n2).isSome = ok)) :
    Calls Tryz.prog 102 #[.agg #[.int .u8 119, nv, .string b]] w fun e w' => e = .returned (.tuple #[mtv m, .bool ok]) ∧ Below w.heap.size w w' := by
  have hcon : ∀ w, GO w → GZ w → GT w → Calls Tryz.prog 119 #[.int .i64 n0, .int .i64 n1, .int .i64 n2] w fun e w' => e = .returned (.tuple #[mtv m, .bool ok]) ∧ Below w.heap.size w w' := fun w hO hZ hT => by
    rw [← hm.out.1, ← hm.out.2]; exact plate_any n0 n1 n2 w hO hZ hT
  obtain ⟨k, hk⟩ : ∃ k : Int, k = 119 := ⟨_, rfl⟩
  rw [← hk]
  obtain ⟨g, cap, rfl, hcap, hcm, hlt, hc⟩ := hn
  have c0 := hc 0 n0 rfl
  have c1 := hc 1 n1 rfl
  have c2 := hc 2 n2 rfl
  have hcap2 : 3 ≤ cap := hcap
  clear hc hcap
  obtain ⟨W0, hW0, hC, hR, hB0, hpl, hgl, hrl, hgr, ht2⟩ : ∃ W, W = (w.alloc (.cells #[.int .u8 k, .slice (some ⟨g, 0, none⟩) 3 cap, .string b] 115)).alloc (.cells #[.int .i64 0, .int .i64 0, .int .i64 0, .int .i64 0, .int .i64 0, .int .i64 0, .int .i64 0, .int .i64 0, .int .i64 0, .int .i64 0, .int .i64 0, .int .i64 0] 85) ∧ NP3 w.heap.size g cap k n0 n1 n2 W ∧ Blk W (w.heap.size + 1) (mtc ⟨zK, zK, zK, zK⟩) 85 ∧ Below w.heap.size w W ∧ w.heap.size < W.heap.size ∧ g < W.heap.size ∧ w.heap.size + 1 < W.heap.size ∧ g ≠ w.heap.size + 1 ∧ W.cell? ⟨w.heap.size, 2, none⟩ = some (.string b) := by
    have hb : Below w.heap.size w ((w.alloc (.cells #[.int .u8 k, .slice (some ⟨g, 0, none⟩) 3 cap, .string b] 115)).alloc (.cells #[.int .i64 0, .int .i64 0, .int .i64 0, .int .i64 0, .int .i64 0, .int .i64 0, .int .i64 0, .int .i64 0, .int .i64 0, .int .i64 0, .int .i64 0, .int .i64 0] 85)) := by exact below_
    refine ⟨_, rfl, ⟨?_, ?_, (hb.cell (p := ⟨_, _, _⟩) hlt).trans c0, (hb.cell (p := ⟨_, _, _⟩) hlt).trans c1, (hb.cell (p := ⟨_, _, _⟩) hlt).trans c2⟩, ?_, hb, by simp; omega, by simp; omega, by simp, by omega, ?_⟩
    · exact (((Below.refl _ _).alloc (Nat.le_refl _) _).cell (p := ⟨_, _, _⟩) (by simp)).trans (World.cell?_alloc_at _ _ _ _ rfl)
    · exact (((Below.refl _ _).alloc (Nat.le_refl _) _).cell (p := ⟨_, _, _⟩) (by simp)).trans (World.cell?_alloc_at _ _ _ _ rfl)
    · have := heap_alloc_last (w.alloc (.cells #[.int .u8 k, .slice (some ⟨g, 0, none⟩) 3 cap, .string b] 115)) (.cells (mtc ⟨zK, zK, zK, zK⟩) 85)
      rwa [World.size_alloc] at this
    · exact (((Below.refl _ _).alloc (Nat.le_refl _) _).cell (p := ⟨_, _, _⟩) (by simp)).trans (World.cell?_alloc_at _ _ _ _ rfl)
  obtain ⟨p0, p1, d0, d1, d2⟩ := hC
  have hC : NP3 w.heap.size g cap k n0 n1 n2 W0 := ⟨p0, p1, d0, d1, d2⟩
  have hpr : w.heap.size ≠ w.heap.size + 1 := by omega
  clear c0 c1 c2
  have HK := Lib.hid hk
  have k1 : (k == 114) = false := by rw [hk]; rfl
  have k2 : (k == 119) = true := by rw [hk]; rfl
  have k3 : (k == 102) = false := by rw [hk]; rfl
  have k4 : (k == 97) = false := by rw [hk]; rfl
  clear hk
  go_enter Tryz.func102, Tryz.ntmps102
  go_upto_region 5 with fail
  rw [← hW0]
  clear hW0
  go_region_held3 (fun w' => w'.cell? ⟨w.heap.size, 0, none⟩ = some (.int .u8 k) ∧ w'.cell? ⟨w.heap.size, 1, none⟩ = some (.slice (some ⟨g, 0, none⟩) 3 cap) ∧ w'.cell? ⟨g, 0, none⟩ = some (.int .i64 n0) ∧ w'.cell? ⟨g, 1, none⟩ = some (.int .i64 n1) ∧ w'.cell? ⟨g, 2, none⟩ = some (.int .i64 n2)) ((first | (refine hC.of hpl hgl ?_; with_reducible first | assumption | exact Below.drew (by assumption) | exact Below.refl _ _ | exact Below.drew (Below.refl _ _)) | (exact NP3.after (hC.of hpl hgl (by with_reducible assumption)) hpr hgr _ _ _ _ _ _ _ _ _ _ _ _))) (first | (go_at_call 119; (with_reducible refine (hcon _ (hO.below (bstep hB0 (by (repeat' (first | (with_reducible exact Below.refl _ _) | (with_reducible assumption) | (with_reducible refine Below.setCell ?_ (by first | omega | (simp; done) | (simp; omega)) _) | (with_reducible refine Below.alloc ?_ (by first | omega | (simp; done) | (simp; omega)) _) | (with_reducible refine below_drewN ?_ _) | (with_reducible refine Below.drew ?_)))) hB0.size)) (hZ.below (bstep hB0 (by (repeat' (first | (with_reducible exact Below.refl _ _) | (with_reducible assumption) | (with_reducible refine Below.setCell ?_ (by first | omega | (simp; done) | (simp; omega)) _) | (with_reducible refine Below.alloc ?_ (by first | omega | (simp; done) | (simp; omega)) _) | (with_reducible refine below_drewN ?_ _) | (with_reducible refine Below.drew ?_)))) hB0.size)) (hT.below (bstep hB0 (by (repeat' (first | (with_reducible exact Below.refl _ _) | (with_reducible assumption) | (with_reducible refine Below.setCell ?_ (by first | omega | (simp; done) | (simp; omega)) _) | (with_reducible refine Below.alloc ?_ (by first | omega | (simp; done) | (simp; omega)) _) | (with_reducible refine below_drewN ?_ _) | (with_reducible refine Below.drew ?_)))) hB0.size))).mono ?_); rintro e w1 ⟨rfl, hb⟩; have hB : Below W0.heap.size W0 w1 := bstep (by (repeat' (first | (with_reducible exact Below.refl _ _) | (with_reducible assumption) | (with_reducible refine Below.setCell ?_ (by first | omega | (simp; done) | (simp; omega)) _) | (with_reducible refine Below.alloc ?_ (by first | omega | (simp; done) | (simp; omega)) _) | (with_reducible refine below_drewN ?_ _) | (with_reducible refine Below.drew ?_)))) hb side_; have hMr := (hB.block _ hrl).trans hR; obtain ⟨ho1, ho2⟩ := mat_out hMr; have k0 := ho1 0 (by decide); have k1 := ho1 1 (by decide); have k2 := ho1 2 (by decide); have k3 := ho1 3 (by decide); have k4 := ho1 4 (by decide); have k5 := ho1 5 (by decide); have k6 := ho1 6 (by decide); have k7 := ho1 7 (by decide); have k8 := ho1 8 (by decide); have k9 := ho1 9 (by decide); have k10 := ho1 10 (by decide); have k11 := ho1 11 (by decide); clear ho1 hb hMr))
  have hBw : Below w.heap.size w w1 := bstep hB0 hB hB0.size
  (try go_wp2)
  exact bodyPost_ret (v := .tuple #[mtv m, .bool ok]) (by simp [results, Tryz.results102, mtv, go_sem, *]) rfl ⟨rfl, by exact below_⟩
set_option maxRecDepth 100000 in
set_option maxHeartbeats 8000000 in
theorem mat_f (nv : Value) (b : ByteArray) (n0 n1 : Int) (m : Mt) (ok : Bool) (w : World) (hn : NumsAt w nv [n0, n1]) (hm : Hid ((filtI n0 n1).getD Z12 = m ∧ (filtI n0 n1).isSome = ok)) :
    Calls Tryz.prog 102 #[.agg #[.int .u8 102, nv, .string b]] w fun e w' => e = .returned (.tuple #[mtv m, .bool ok]) ∧ Below w.heap.size w w' := by
  have hcon : ∀ w, Calls Tryz.prog 120 #[.int .i64 n0, .int .i64 n1] w fun e w' => e = .returned (.tuple #[mtv m, .bool ok]) ∧ Below w.heap.size w w' := fun w => by
    rw [← hm.out.1, ← hm.out.2]; exact filter_any n0 n1 w
  obtain ⟨k, hk⟩ : ∃ k : Int, k = 102 := ⟨_, rfl⟩
  rw [← hk]
  obtain ⟨g, cap, rfl, hcap, hcm, hlt, hc⟩ := hn
  have c0 := hc 0 n0 rfl
  have c1 := hc 1 n1 rfl
  have hcap2 : 2 ≤ cap := hcap
  clear hc hcap
  obtain ⟨W0, hW0, hC, hR, hB0, hpl, hgl, hrl, hgr, ht2⟩ : ∃ W, W = (w.alloc (.cells #[.int .u8 k, .slice (some ⟨g, 0, none⟩) 2 cap, .string b] 115)).alloc (.cells #[.int .i64 0, .int .i64 0, .int .i64 0, .int .i64 0, .int .i64 0, .int .i64 0, .int .i64 0, .int .i64 0, .int .i64 0, .int .i64 0, .int .i64 0, .int .i64 0] 85) ∧ NP2 w.heap.size g cap k n0 n1 W ∧ Blk W (w.heap.size + 1) (mtc ⟨zK, zK, zK, zK⟩) 85 ∧ Below w.heap.size w W ∧ w.heap.size < W.heap.size ∧ g < W.heap.size ∧ w.heap.size + 1 < W.heap.size ∧ g ≠ w.heap.size + 1 ∧ W.cell? ⟨w.heap.size, 2, none⟩ = some (.string b) := by
    have hb : Below w.heap.size w ((w.alloc (.cells #[.int .u8 k, .slice (some ⟨g, 0, none⟩) 2 cap, .string b] 115)).alloc (.cells #[.int .i64 0, .int .i64 0, .int .i64 0, .int .i64 0, .int .i64 0, .int .i64 0, .int .i64 0, .int .i64 0, .int .i64 0, .int .i64 0, .int .i64 0, .int .i64 0] 85)) := by exact below_
    refine ⟨_, rfl, ⟨?_, ?_, (hb.cell (p := ⟨_, _, _⟩) hlt).trans c0, (hb.cell (p := ⟨_, _, _⟩) hlt).trans c1⟩, ?_, hb, by simp; omega, by simp; omega, by simp, by omega, ?_⟩
    · exact (((Below.refl _ _).alloc (Nat.le_refl _) _).cell (p := ⟨_, _, _⟩) (by simp)).trans (World.cell?_alloc_at _ _ _ _ rfl)
    · exact (((Below.refl _ _).alloc (Nat.le_refl _) _).cell (p := ⟨_, _, _⟩) (by simp)).trans (World.cell?_alloc_at _ _ _ _ rfl)
    · have := heap_alloc_last (w.alloc (.cells #[.int .u8 k, .slice (some ⟨g, 0, none⟩) 2 cap, .string b] 115)) (.cells (mtc ⟨zK, zK, zK, zK⟩) 85)
      rwa [World.size_alloc] at this
    · exact (((Below.refl _ _).alloc (Nat.le_refl _) _).cell (p := ⟨_, _, _⟩) (by simp)).trans (World.cell?_alloc_at _ _ _ _ rfl)
  obtain ⟨p0, p1, d0, d1⟩ := hC
  have hC : NP2 w.heap.size g cap k n0 n1 W0 := ⟨p0, p1, d0, d1⟩
  have hpr : w.heap.size ≠ w.heap.size + 1 := by omega
  clear c0 c1
  have HK := Lib.hid hk
  have k1 : (k == 114) = false := by rw [hk]; rfl
  have k2 : (k == 119) = false := by rw [hk]; rfl
  have k3 : (k == 102) = true := by rw [hk]; rfl
  have k4 : (k == 97) = false := by rw [hk]; rfl
  clear hk
  go_enter Tryz.func102, Tryz.ntmps102
  go_upto_region 7 with fail
  rw [← hW0]
  clear hW0
  go_region_held3 (fun w' => w'.cell? ⟨w.heap.size, 0, none⟩ = some (.int .u8 k) ∧ w'.cell? ⟨w.heap.size, 1, none⟩ = some (.slice (some ⟨g, 0, none⟩) 2 cap) ∧ w'.cell? ⟨g, 0, none⟩ = some (.int .i64 n0) ∧ w'.cell? ⟨g, 1, none⟩ = some (.int .i64 n1)) ((first | (refine hC.of hpl hgl ?_; with_reducible first | assumption | exact Below.drew (by assumption) | exact Below.refl _ _ | exact Below.drew (Below.refl _ _)) | (exact NP2.after (hC.of hpl hgl (by with_reducible assumption)) hpr hgr _ _ _ _ _ _ _ _ _ _ _ _))) (first | (go_at_call 120; (with_reducible refine (hcon _).mono ?_); rintro e w1 ⟨rfl, hb⟩; have hB : Below W0.heap.size W0 w1 := bstep (by (repeat' (first | (with_reducible exact Below.refl _ _) | (with_reducible assumption) | (with_reducible refine Below.setCell ?_ (by first | omega | (simp; done) | (simp; omega)) _) | (with_reducible refine Below.alloc ?_ (by first | omega | (simp; done) | (simp; omega)) _) | (with_reducible refine below_drewN ?_ _) | (with_reducible refine Below.drew ?_)))) hb side_; have hMr := (hB.block _ hrl).trans hR; obtain ⟨ho1, ho2⟩ := mat_out hMr; have k0 := ho1 0 (by decide); have k1 := ho1 1 (by decide); have k2 := ho1 2 (by decide); have k3 := ho1 3 (by decide); have k4 := ho1 4 (by decide); have k5 := ho1 5 (by decide); have k6 := ho1 6 (by decide); have k7 := ho1 7 (by decide); have k8 := ho1 8 (by decide); have k9 := ho1 9 (by decide); have k10 := ho1 10 (by decide); have k11 := ho1 11 (by decide); clear ho1 hb hMr))
  have hBw : Below w.heap.size w w1 := bstep hB0 hB hB0.size
  (try go_wp2)
  exact bodyPost_ret (v := .tuple #[mtv m, .bool ok]) (by simp [results, Tryz.results102, mtv, go_sem, *]) rfl ⟨rfl, by exact below_⟩
set_option maxRecDepth 100000 in
set_option maxHeartbeats 8000000 in
theorem mat_a (nv : Value) (b : ByteArray) (n0 n1 : Int) (f : Fr) (w : World) (hn : NumsAt w nv [n0, n1]) (h1 : 1 ≤ n1) (h2 : n1 ≤ 100) (h3 : 0 ≤ n0) (h4 : n0 ≤ n1) (hZ : GZ w) (hf : Hid (shareF n0 n1 = f)) :
    Calls Tryz.prog 102 #[.agg #[.int .u8 97, nv, .string b]] w fun e w' => e = .returned (.tuple #[mtv (diagM f f), .bool true]) ∧ Below w.heap.size w w' := by
  have hNW := hn
  obtain ⟨k, hk⟩ : ∃ k : Int, k = 97 := ⟨_, rfl⟩
  rw [← hk]
  obtain ⟨g, cap, rfl, hcap, hcm, hlt, hc⟩ := hn
  have c0 := hc 0 n0 rfl
  have c1 := hc 1 n1 rfl
  have hcap2 : 2 ≤ cap := hcap
  clear hc hcap
  obtain ⟨W0, hW0, hC, hR, hB0, hpl, hgl, hrl, hgr, ht2⟩ : ∃ W, W = (w.alloc (.cells #[.int .u8 k, .slice (some ⟨g, 0, none⟩) 2 cap, .string b] 115)).alloc (.cells #[.int .i64 0, .int .i64 0, .int .i64 0, .int .i64 0, .int .i64 0, .int .i64 0, .int .i64 0, .int .i64 0, .int .i64 0, .int .i64 0, .int .i64 0, .int .i64 0] 85) ∧ NP2 w.heap.size g cap k n0 n1 W ∧ Blk W (w.heap.size + 1) (mtc ⟨zK, zK, zK, zK⟩) 85 ∧ Below w.heap.size w W ∧ w.heap.size < W.heap.size ∧ g < W.heap.size ∧ w.heap.size + 1 < W.heap.size ∧ g ≠ w.heap.size + 1 ∧ W.cell? ⟨w.heap.size, 2, none⟩ = some (.string b) := by
    have hb : Below w.heap.size w ((w.alloc (.cells #[.int .u8 k, .slice (some ⟨g, 0, none⟩) 2 cap, .string b] 115)).alloc (.cells #[.int .i64 0, .int .i64 0, .int .i64 0, .int .i64 0, .int .i64 0, .int .i64 0, .int .i64 0, .int .i64 0, .int .i64 0, .int .i64 0, .int .i64 0, .int .i64 0] 85)) := by exact below_
    refine ⟨_, rfl, ⟨?_, ?_, (hb.cell (p := ⟨_, _, _⟩) hlt).trans c0, (hb.cell (p := ⟨_, _, _⟩) hlt).trans c1⟩, ?_, hb, by simp; omega, by simp; omega, by simp, by omega, ?_⟩
    · exact (((Below.refl _ _).alloc (Nat.le_refl _) _).cell (p := ⟨_, _, _⟩) (by simp)).trans (World.cell?_alloc_at _ _ _ _ rfl)
    · exact (((Below.refl _ _).alloc (Nat.le_refl _) _).cell (p := ⟨_, _, _⟩) (by simp)).trans (World.cell?_alloc_at _ _ _ _ rfl)
    · have := heap_alloc_last (w.alloc (.cells #[.int .u8 k, .slice (some ⟨g, 0, none⟩) 2 cap, .string b] 115)) (.cells (mtc ⟨zK, zK, zK, zK⟩) 85)
      rwa [World.size_alloc] at this
    · exact (((Below.refl _ _).alloc (Nat.le_refl _) _).cell (p := ⟨_, _, _⟩) (by simp)).trans (World.cell?_alloc_at _ _ _ _ rfl)
  obtain ⟨p0, p1, d0, d1⟩ := hC
  have hC : NP2 w.heap.size g cap k n0 n1 W0 := ⟨p0, p1, d0, d1⟩
  have hpr : w.heap.size ≠ w.heap.size + 1 := by omega
  clear c0 c1
  have HK := Lib.hid hk
  have k1 : (k == 114) = false := by rw [hk]; rfl
  have k2 : (k == 119) = false := by rw [hk]; rfl
  have k3 : (k == 102) = false := by rw [hk]; rfl
  have k4 : (k == 97) = true := by rw [hk]; rfl
  clear hk
  have hNum : NumsAt W0 (.slice (some ⟨g, 0, none⟩) 2 cap) [n0, n1] := hNW.below hB0
  clear hNW
  have hcon : ∀ w', Below W0.heap.size W0 w' → Calls Tryz.prog 121 #[.agg #[.int .u8 k, .slice (some ⟨g, 0, none⟩) 2 cap, .string b]] w' fun e w'' => e = .returned (frv f) ∧ Below w'.heap.size w' w'' := fun w' hb => by
    rw [← hf.out]; exact share_any k (.slice (some ⟨g, 0, none⟩) 2 cap) b n0 n1 w' (hNum.below hb) h1 h2 h3 h4
  have hz0 : 0 < w.heap.size := by have := hZ.lts; omega
  have hz1 : 0 ≠ w.heap.size + 1 := by omega
  have hz2 : 0 < W0.heap.size := by omega
  have hZ0 := (hZ.below hB0).val
  have hA : NA w.heap.size g cap k b W0 := ⟨⟨p0, p1, ht2⟩, hZ0.1, hZ0.2.1, hZ0.2.2⟩
  clear hC hZ0
  go_enter Tryz.func102, Tryz.ntmps102
  go_upto_region 9 with fail
  rw [← hW0]
  clear hW0
  go_region_held3 (fun w' => (w'.cell? ⟨w.heap.size, 0, none⟩ = some (.int .u8 k) ∧ w'.cell? ⟨w.heap.size, 1, none⟩ = some (.slice (some ⟨g, 0, none⟩) 2 cap) ∧ w'.cell? ⟨w.heap.size, 2, none⟩ = some (.string b)) ∧ (w'.cell? ⟨0, 0, none⟩ = some (.int .i64 0) ∧ w'.cell? ⟨0, 1, none⟩ = some (.int .i64 0) ∧ w'.cell? ⟨0, 2, none⟩ = some (.int .i64 1))) ((first | (refine hA.of hpl hz2 ?_; with_reducible first | assumption | exact Below.drew (by assumption) | exact Below.refl _ _ | exact Below.drew (Below.refl _ _)) | (exact NA.after (hA.of hpl hz2 (by with_reducible assumption)) hpr hz1 _ _ _ _ _ _ _ _ _ _ _ _))) (first | (go_at_call 121; (with_reducible refine (hcon _ (by (repeat' (first | (with_reducible exact Below.refl _ _) | (with_reducible assumption) | (with_reducible refine Below.setCell ?_ (by first | omega | (simp; done) | (simp; omega)) _) | (with_reducible refine Below.alloc ?_ (by first | omega | (simp; done) | (simp; omega)) _) | (with_reducible refine below_drewN ?_ _) | (with_reducible refine Below.drew ?_))))).mono ?_); rintro e w1 ⟨rfl, hb⟩; have hB : Below W0.heap.size W0 w1 := bstep (by (repeat' (first | (with_reducible exact Below.refl _ _) | (with_reducible assumption) | (with_reducible refine Below.setCell ?_ (by first | omega | (simp; done) | (simp; omega)) _) | (with_reducible refine Below.alloc ?_ (by first | omega | (simp; done) | (simp; omega)) _) | (with_reducible refine below_drewN ?_ _) | (with_reducible refine Below.drew ?_)))) hb side_; have hl := hB.size; have hMr := (hB.block _ hrl).trans hR; obtain ⟨ho1, ho2⟩ := mat_out hMr; have k0 := ho1 0 (by decide); have k1 := ho1 1 (by decide); have k2 := ho1 2 (by decide); have k3 := ho1 3 (by decide); have k4 := ho1 4 (by decide); have k5 := ho1 5 (by decide); have k6 := ho1 6 (by decide); have k7 := ho1 7 (by decide); have k8 := ho1 8 (by decide); have k9 := ho1 9 (by decide); have k10 := ho1 10 (by decide); have k11 := ho1 11 (by decide); clear ho1 hb hMr))
  all_goals (have hBw := bstep hB0 (by with_reducible assumption) hB0.size)
  all_goals (try go_wp2)
  all_goals exact bodyPost_ret (v := .tuple #[mtv (diagM f f), .bool true]) (by simp [results, Tryz.results102, mtv, diagM, go_sem, *]) rfl ⟨rfl, by exact below_⟩
set_option maxHeartbeats 4000000 in
theorem mat_d (A : Option Addr) (len cap : Nat) (b : ByteArray) (w : World) :
    Calls Tryz.prog 102 #[.agg #[.int .u8 100, .slice A len cap, .string b]] w fun e w' => e = .returned (mtb none) ∧ Below w.heap.size w w' := by
  go_enter Tryz.func102, Tryz.ntmps102
  go_wp2
  exact bodyPost_ret (v := mtb none) (by simp [results, Tryz.results102, go_sem, *]) rfl ⟨rfl, by exact below_⟩
theorem mat_any (x : Pc) (nv : Value) (b : ByteArray) (w : World) (ho : pcOk x.k x.ns = true) (hn : NumsAt w nv x.ns) (hO : GO w) (hZ : GZ w) (hT : GT w) :
    Calls Tryz.prog 102 #[.agg #[.int .u8 x.k.toNat, nv, .string b]] w fun e w' => e = .returned (mtb (pcMat x)) ∧ Below w.heap.size w w' := by
  obtain ⟨k, ns⟩ := x
  match ns, ho, hn with
  | [], ho, hn => cases ho
  | [_], ho, hn => cases ho
  | [p, q], ho, hn =>
    by_cases h1 : k = 114
    · subst h1
      exact mat_r nv b p q _ _ w hn (Lib.hid ⟨rfl, rfl⟩)
    by_cases h2 : k = 102
    · subst h2
      exact mat_f nv b p q _ _ w hn (Lib.hid ⟨rfl, rfl⟩)
    have hz : pcOk k [p, q] = (if k = 97 ∨ k = 100 then inB q 1 100 && inB p 0 q else false) := by
      show (if k = 114 ∨ k = 102 then dirOk p q else if k = 97 ∨ k = 100 then inB q 1 100 && inB p 0 q else false) = _
      rw [if_neg (fun hh => hh.elim h1 h2)]
    have ho2 : pcOk k [p, q] = true := ho
    rw [hz] at ho2
    by_cases h3 : k = 97
    · subst h3
      rw [if_pos (.inl rfl)] at ho2
      simp only [Bool.and_eq_true, inB_iff] at ho2
      exact mat_a nv b p q _ w hn ho2.1.1 ho2.1.2 ho2.2.1 ho2.2.2 hZ rfl
    by_cases h4 : k = 100
    · subst h4
      obtain ⟨g, cap, rfl, -⟩ := hn
      exact mat_d _ _ _ b w
    · rw [if_neg (fun hh => hh.elim h3 h4)] at ho2
      cases ho2
  | [p, q, n], ho, hn =>
    have ho2 : (if k = 119 then dirOk p q && inB n 0 3 else false) = true := ho
    by_cases h1 : k = 119
    · subst h1
      exact mat_w nv b p q n _ _ w hn hO hZ hT (Lib.hid ⟨rfl, rfl⟩)
    · rw [if_neg h1] at ho2; cases ho2
  | _ :: _ :: _ :: _ :: _, ho, hn => cases ho
end Go.Proofs.YtkdggljioekkhaaGreatDoor
