/-
  The walks of shares, and of the matrices of pieces, the reference's side.
-/
import Derived.Test.YtkdggljioekkhaaGreatDoorBs
import Derived.Test.YtkdggljioekkhaaGreatDoorNd
namespace Go.Proofs.YtkdggljioekkhaaGreatDoor
set_option linter.unusedSimpArgs false
set_option linter.unusedVariables false
open Go.RowKit
attribute [local go_sem ↓] Go.wp_at_zero Go.wp_at_succ
set_option maxHeartbeats 4000000 in
theorem spart_any (k : Int) (nv : Value) (n0 n1 : Int) (w : World) (hn : NumsAt w nv [n0, n1]) (h1 : 1 ≤ n1) (h2 : n1 ≤ 100) (h3 : 0 ≤ n0) (h4 : n0 ≤ n1) :
    Calls Tryz.prog 96 #[.agg #[.int .u8 k, nv]] w fun e w' => e = .returned (frv (shareF n0 n1)) ∧ Below w.heap.size w w' := by
  obtain ⟨g, cap, rfl, hcap, hcm, hlt, hc⟩ := hn
  have c0 := hc 0 n0 rfl
  have c1 := hc 1 n1 rfl
  have hcap2 : 2 ≤ cap := hcap
  clear hc hcap
  obtain ⟨W0, hW0, hC, hR, hB0, hpl, hgl⟩ : ∃ W, W = (w.alloc (.cells #[.int .u8 k, .slice (some ⟨g, 0, none⟩) 2 cap] 90)).alloc (.cells #[.int .i64 0, .int .i64 0, .int .i64 0] 26) ∧ NP2 w.heap.size g cap k n0 n1 W ∧ Blk W (w.heap.size + 1) (frc ⟨0, 0, 0⟩) 26 ∧ Below w.heap.size w W ∧ w.heap.size < W.heap.size ∧ g < W.heap.size := by
    have hb : Below w.heap.size w ((w.alloc (.cells #[.int .u8 k, .slice (some ⟨g, 0, none⟩) 2 cap] 90)).alloc (.cells #[.int .i64 0, .int .i64 0, .int .i64 0] 26)) := by exact below_
    refine ⟨_, rfl, ⟨?_, ?_, (hb.cell (p := ⟨_, _, _⟩) hlt).trans c0, (hb.cell (p := ⟨_, _, _⟩) hlt).trans c1⟩, ?_, hb, by simp; omega, by simp; omega⟩
    · exact (((Below.refl _ _).alloc (Nat.le_refl _) _).cell (p := ⟨_, _, _⟩) (by simp)).trans (World.cell?_alloc_at _ _ _ _ rfl)
    · exact (((Below.refl _ _).alloc (Nat.le_refl _) _).cell (p := ⟨_, _, _⟩) (by simp)).trans (World.cell?_alloc_at _ _ _ _ rfl)
    · have := heap_alloc_last (w.alloc (.cells #[.int .u8 k, .slice (some ⟨g, 0, none⟩) 2 cap] 90)) (.cells (frc ⟨0, 0, 0⟩) 26)
      rwa [World.size_alloc] at this
  obtain ⟨p0, p1, d0, d1⟩ := hC
  have hC : NP2 w.heap.size g cap k n0 n1 W0 := ⟨p0, p1, d0, d1⟩
  clear c0 c1
  go_enter Tryz.func96, Tryz.ntmps96
  go_upto_region 1 with fail
  rw [← hW0]
  clear hW0
  go_cut [3, 4] from 5 to 16 (fun s3 _ wx => ∃ b3, s3 = .pointer (some ⟨b3, 0, none⟩) ∧ (wx.cell? ⟨b3, 0, none⟩ = some (.int .i64 (shareF n0 n1).re) ∧ wx.cell? ⟨b3, 1, none⟩ = some (.int .i64 (shareF n0 n1).im) ∧ wx.cell? ⟨b3, 2, none⟩ = some (.int .i64 (shareF n0 n1).den)) ∧ Below W0.heap.size W0 wx)
  case first =>
    go_region_held3 (fun w' => w'.cell? ⟨w.heap.size, 0, none⟩ = some (.int .u8 k) ∧ w'.cell? ⟨w.heap.size, 1, none⟩ = some (.slice (some ⟨g, 0, none⟩) 2 cap) ∧ w'.cell? ⟨g, 0, none⟩ = some (.int .i64 n0) ∧ w'.cell? ⟨g, 1, none⟩ = some (.int .i64 n1)) ((refine hC.of hpl hgl ?_; (repeat' (first | (with_reducible exact Below.refl _ _) | (with_reducible assumption) | (with_reducible refine Below.setCell ?_ (by first | omega | (simp; done) | (simp; omega)) _) | (with_reducible refine Below.alloc ?_ (by first | omega | (simp; done) | (simp; omega)) _) | (with_reducible refine below_drewN ?_ _) | (with_reducible refine Below.drew ?_))))) (first | (go_at_call 109; (with_reducible refine (smake_low n0 0 n1 _ (by rw [inB_iff]; omega) (by rw [inB_iff]; omega) (by rw [inB_iff]; omega)).mono ?_); rintro e w1 ⟨rfl, hb⟩; obtain ⟨hc, hf⟩ := bf hb (W0.heap.size) side_; have hs := hb.size; (try simp only [World.size_alloc, World.size_setCell, World.size_drew, World.heap_drewN] at hs); have hl : W0.heap.size ≤ w1.heap.size := (by omega); obtain ⟨B, hBe, hBl, hc2, hf2⟩ := bfA hb; (try simp only [World.size_alloc, World.size_setCell, World.size_drew, World.heap_drewN] at hBe); have hB : Below W0.heap.size W0 w1 := bstep (by exact below_) hb side_; clear hs hb))
    all_goals (go_wp2; go_meet; exact ⟨_, rfl, (by refine ⟨?_, ?_, ?_⟩ <;> (first | (with_reducible exact World.cell?_alloc_at _ _ _ _ rfl) | (simp [shareF, go_sem, *]; done))), by exact below_⟩)
  case rest =>
    obtain ⟨b3, rfl, ⟨f0, f1, f2⟩, hB⟩ := hcut
    have hR2 := (hB.block _ (blk_lt hR)).trans hR
    obtain ⟨r0, r1, r2⟩ := blk_fr0 hR2
    have g0 := blk_free0 hR2 0
    have g1 := blk_free0 hR2 1
    have g2 := blk_free0 hR2 2
    have hBw := bstep hB0 hB hB0.size
    go_wp2
    exact bodyPost_ret (v := frv (shareF n0 n1)) (by simp [results, Tryz.results96, go_sem, *]) rfl ⟨rfl, by exact below_⟩
set_option maxRecDepth 100000 in
set_option maxHeartbeats 8000000 in
theorem smat_r (nv : Value) (n0 n1 : Int) (m : Mt) (ok : Bool) (w : World) (hn : NumsAt w nv [n0, n1]) (hm : Hid ((rotI n0 n1).getD Z12 = m ∧ (rotI n0 n1).isSome = ok)) :
    Calls Tryz.prog 64 #[.agg #[.int .u8 114, nv]] w fun e w' => e = .returned (.tuple #[mtv m, .bool ok]) ∧ Below w.heap.size w w' := by
  have hcon : ∀ w, Calls Tryz.prog 93 #[.int .i64 n0, .int .i64 n1] w fun e w' => e = .returned (.tuple #[mtv m, .bool ok]) ∧ Below w.heap.size w w' := fun w => by
    rw [← hm.out.1, ← hm.out.2]; exact srot_any n0 n1 w
  obtain ⟨k, hk⟩ : ∃ k : Int, k = 114 := ⟨_, rfl⟩
  rw [← hk]
  obtain ⟨g, cap, rfl, hcap, hcm, hlt, hc⟩ := hn
  have c0 := hc 0 n0 rfl
  have c1 := hc 1 n1 rfl
  have hcap2 : 2 ≤ cap := hcap
  clear hc hcap
  obtain ⟨W0, hW0, hC, hR, hB0, hpl, hgl, hrl, hgr⟩ : ∃ W, W = (w.alloc (.cells #[.int .u8 k, .slice (some ⟨g, 0, none⟩) 2 cap] 90)).alloc (.cells #[.int .i64 0, .int .i64 0, .int .i64 0, .int .i64 0, .int .i64 0, .int .i64 0, .int .i64 0, .int .i64 0, .int .i64 0, .int .i64 0, .int .i64 0, .int .i64 0] 85) ∧ NP2 w.heap.size g cap k n0 n1 W ∧ Blk W (w.heap.size + 1) (mtc ⟨zK, zK, zK, zK⟩) 85 ∧ Below w.heap.size w W ∧ w.heap.size < W.heap.size ∧ g < W.heap.size ∧ w.heap.size + 1 < W.heap.size ∧ g ≠ w.heap.size + 1 := by
    have hb : Below w.heap.size w ((w.alloc (.cells #[.int .u8 k, .slice (some ⟨g, 0, none⟩) 2 cap] 90)).alloc (.cells #[.int .i64 0, .int .i64 0, .int .i64 0, .int .i64 0, .int .i64 0, .int .i64 0, .int .i64 0, .int .i64 0, .int .i64 0, .int .i64 0, .int .i64 0, .int .i64 0] 85)) := by exact below_
    refine ⟨_, rfl, ⟨?_, ?_, (hb.cell (p := ⟨_, _, _⟩) hlt).trans c0, (hb.cell (p := ⟨_, _, _⟩) hlt).trans c1⟩, ?_, hb, by simp; omega, by simp; omega, by simp, by omega⟩
    · exact (((Below.refl _ _).alloc (Nat.le_refl _) _).cell (p := ⟨_, _, _⟩) (by simp)).trans (World.cell?_alloc_at _ _ _ _ rfl)
    · exact (((Below.refl _ _).alloc (Nat.le_refl _) _).cell (p := ⟨_, _, _⟩) (by simp)).trans (World.cell?_alloc_at _ _ _ _ rfl)
    · have := heap_alloc_last (w.alloc (.cells #[.int .u8 k, .slice (some ⟨g, 0, none⟩) 2 cap] 90)) (.cells (mtc ⟨zK, zK, zK, zK⟩) 85)
      rwa [World.size_alloc] at this
  obtain ⟨p0, p1, d0, d1⟩ := hC
  have hC : NP2 w.heap.size g cap k n0 n1 W0 := ⟨p0, p1, d0, d1⟩
  have hpr : w.heap.size ≠ w.heap.size + 1 := by omega
  clear c0 c1
  have HK := Lib.hid hk
  have k1 : (k == 114) = true := by rw [hk]; rfl
  have k2 : (k == 119) = false := by rw [hk]; rfl
  have k3 : (k == 102) = false := by rw [hk]; rfl
  have k4 : (k == 97) = false := by rw [hk]; rfl
  clear hk
  go_enter Tryz.func64, Tryz.ntmps64
  go_upto_region 3 with fail
  rw [← hW0]
  clear hW0
  go_region_held3 (fun w' => w'.cell? ⟨w.heap.size, 0, none⟩ = some (.int .u8 k) ∧ w'.cell? ⟨w.heap.size, 1, none⟩ = some (.slice (some ⟨g, 0, none⟩) 2 cap) ∧ w'.cell? ⟨g, 0, none⟩ = some (.int .i64 n0) ∧ w'.cell? ⟨g, 1, none⟩ = some (.int .i64 n1)) ((first | (refine hC.of hpl hgl ?_; with_reducible first | assumption | exact Below.drew (by assumption) | exact Below.refl _ _ | exact Below.drew (Below.refl _ _)) | (exact NP2.after (hC.of hpl hgl (by with_reducible assumption)) hpr hgr _ _ _ _ _ _ _ _ _ _ _ _))) (first | (go_at_call 93; (with_reducible refine (hcon _).mono ?_); rintro e w1 ⟨rfl, hb⟩; have hB : Below W0.heap.size W0 w1 := bstep (by (repeat' (first | (with_reducible exact Below.refl _ _) | (with_reducible assumption) | (with_reducible refine Below.setCell ?_ (by first | omega | (simp; done) | (simp; omega)) _) | (with_reducible refine Below.alloc ?_ (by first | omega | (simp; done) | (simp; omega)) _) | (with_reducible refine below_drewN ?_ _) | (with_reducible refine Below.drew ?_)))) hb side_; have hMr := (hB.block _ hrl).trans hR; obtain ⟨ho1, ho2⟩ := mat_out hMr; have k0 := ho1 0 (by decide); have k1 := ho1 1 (by decide); have k2 := ho1 2 (by decide); have k3 := ho1 3 (by decide); have k4 := ho1 4 (by decide); have k5 := ho1 5 (by decide); have k6 := ho1 6 (by decide); have k7 := ho1 7 (by decide); have k8 := ho1 8 (by decide); have k9 := ho1 9 (by decide); have k10 := ho1 10 (by decide); have k11 := ho1 11 (by decide); clear ho1 hb hMr))
  have hBw : Below w.heap.size w w1 := bstep hB0 hB hB0.size
  (try go_wp2)
  exact bodyPost_ret (v := .tuple #[mtv m, .bool ok]) (by simp [results, Tryz.results64, mtv, go_sem, *]) rfl ⟨rfl, by exact below_⟩
set_option maxRecDepth 100000 in
set_option maxHeartbeats 8000000 in
theorem smat_w (nv : Value) (n0 n1 n2 : Int) (m : Mt) (ok : Bool) (w : World) (hn : NumsAt w nv [n0, n1, n2]) (hm : Hid ((plateI n0 n1 n2).getD Z12 = m ∧ (plateI n0 n1 n2).isSome = ok)) :
    Calls Tryz.prog 64 #[.agg #[.int .u8 119, nv]] w fun e w' => e = .returned (.tuple #[mtv m, .bool ok]) ∧ Below w.heap.size w w' := by
  have hcon : ∀ w, Calls Tryz.prog 94 #[.int .i64 n0, .int .i64 n1, .int .i64 n2] w fun e w' => e = .returned (.tuple #[mtv m, .bool ok]) ∧ Below w.heap.size w w' := fun w => by
    rw [← hm.out.1, ← hm.out.2]; exact splate_any n0 n1 n2 w
  obtain ⟨k, hk⟩ : ∃ k : Int, k = 119 := ⟨_, rfl⟩
  rw [← hk]
  obtain ⟨g, cap, rfl, hcap, hcm, hlt, hc⟩ := hn
  have c0 := hc 0 n0 rfl
  have c1 := hc 1 n1 rfl
  have c2 := hc 2 n2 rfl
  have hcap2 : 3 ≤ cap := hcap
  clear hc hcap
  obtain ⟨W0, hW0, hC, hR, hB0, hpl, hgl, hrl, hgr⟩ : ∃ W, W = (w.alloc (.cells #[.int .u8 k, .slice (some ⟨g, 0, none⟩) 3 cap] 90)).alloc (.cells #[.int .i64 0, .int .i64 0, .int .i64 0, .int .i64 0, .int .i64 0, .int .i64 0, .int .i64 0, .int .i64 0, .int .i64 0, .int .i64 0, .int .i64 0, .int .i64 0] 85) ∧ NP3 w.heap.size g cap k n0 n1 n2 W ∧ Blk W (w.heap.size + 1) (mtc ⟨zK, zK, zK, zK⟩) 85 ∧ Below w.heap.size w W ∧ w.heap.size < W.heap.size ∧ g < W.heap.size ∧ w.heap.size + 1 < W.heap.size ∧ g ≠ w.heap.size + 1 := by
    have hb : Below w.heap.size w ((w.alloc (.cells #[.int .u8 k, .slice (some ⟨g, 0, none⟩) 3 cap] 90)).alloc (.cells #[.int .i64 0, .int .i64 0, .int .i64 0, .int .i64 0, .int .i64 0, .int .i64 0, .int .i64 0, .int .i64 0, .int .i64 0, .int .i64 0, .int .i64 0, .int .i64 0] 85)) := by exact below_
    refine ⟨_, rfl, ⟨?_, ?_, (hb.cell (p := ⟨_, _, _⟩) hlt).trans c0, (hb.cell (p := ⟨_, _, _⟩) hlt).trans c1, (hb.cell (p := ⟨_, _, _⟩) hlt).trans c2⟩, ?_, hb, by simp; omega, by simp; omega, by simp, by omega⟩
    · exact (((Below.refl _ _).alloc (Nat.le_refl _) _).cell (p := ⟨_, _, _⟩) (by simp)).trans (World.cell?_alloc_at _ _ _ _ rfl)
    · exact (((Below.refl _ _).alloc (Nat.le_refl _) _).cell (p := ⟨_, _, _⟩) (by simp)).trans (World.cell?_alloc_at _ _ _ _ rfl)
    · have := heap_alloc_last (w.alloc (.cells #[.int .u8 k, .slice (some ⟨g, 0, none⟩) 3 cap] 90)) (.cells (mtc ⟨zK, zK, zK, zK⟩) 85)
      rwa [World.size_alloc] at this
  obtain ⟨p0, p1, d0, d1, d2⟩ := hC
  have hC : NP3 w.heap.size g cap k n0 n1 n2 W0 := ⟨p0, p1, d0, d1, d2⟩
  have hpr : w.heap.size ≠ w.heap.size + 1 := by omega
  clear c0 c1 c2
  have HK := Lib.hid hk
  have k1 : (k == 114) = false := by rw [hk]; rfl
  have k2 : (k == 119) = true := by rw [hk]; rfl
  have k3 : (k == 102) = false := by rw [hk]; rfl
  have k4 : (k == 97) = false := by rw [hk]; rfl
  clear hk
  go_enter Tryz.func64, Tryz.ntmps64
  go_upto_region 5 with fail
  rw [← hW0]
  clear hW0
  go_region_held3 (fun w' => w'.cell? ⟨w.heap.size, 0, none⟩ = some (.int .u8 k) ∧ w'.cell? ⟨w.heap.size, 1, none⟩ = some (.slice (some ⟨g, 0, none⟩) 3 cap) ∧ w'.cell? ⟨g, 0, none⟩ = some (.int .i64 n0) ∧ w'.cell? ⟨g, 1, none⟩ = some (.int .i64 n1) ∧ w'.cell? ⟨g, 2, none⟩ = some (.int .i64 n2)) ((first | (refine hC.of hpl hgl ?_; with_reducible first | assumption | exact Below.drew (by assumption) | exact Below.refl _ _ | exact Below.drew (Below.refl _ _)) | (exact NP3.after (hC.of hpl hgl (by with_reducible assumption)) hpr hgr _ _ _ _ _ _ _ _ _ _ _ _))) (first | (go_at_call 94; (with_reducible refine (hcon _).mono ?_); rintro e w1 ⟨rfl, hb⟩; have hB : Below W0.heap.size W0 w1 := bstep (by (repeat' (first | (with_reducible exact Below.refl _ _) | (with_reducible assumption) | (with_reducible refine Below.setCell ?_ (by first | omega | (simp; done) | (simp; omega)) _) | (with_reducible refine Below.alloc ?_ (by first | omega | (simp; done) | (simp; omega)) _) | (with_reducible refine below_drewN ?_ _) | (with_reducible refine Below.drew ?_)))) hb side_; have hMr := (hB.block _ hrl).trans hR; obtain ⟨ho1, ho2⟩ := mat_out hMr; have k0 := ho1 0 (by decide); have k1 := ho1 1 (by decide); have k2 := ho1 2 (by decide); have k3 := ho1 3 (by decide); have k4 := ho1 4 (by decide); have k5 := ho1 5 (by decide); have k6 := ho1 6 (by decide); have k7 := ho1 7 (by decide); have k8 := ho1 8 (by decide); have k9 := ho1 9 (by decide); have k10 := ho1 10 (by decide); have k11 := ho1 11 (by decide); clear ho1 hb hMr))
  have hBw : Below w.heap.size w w1 := bstep hB0 hB hB0.size
  (try go_wp2)
  exact bodyPost_ret (v := .tuple #[mtv m, .bool ok]) (by simp [results, Tryz.results64, mtv, go_sem, *]) rfl ⟨rfl, by exact below_⟩
set_option maxRecDepth 100000 in
set_option maxHeartbeats 8000000 in
theorem smat_f (nv : Value) (n0 n1 : Int) (m : Mt) (ok : Bool) (w : World) (hn : NumsAt w nv [n0, n1]) (hm : Hid ((filtI n0 n1).getD Z12 = m ∧ (filtI n0 n1).isSome = ok)) :
    Calls Tryz.prog 64 #[.agg #[.int .u8 102, nv]] w fun e w' => e = .returned (.tuple #[mtv m, .bool ok]) ∧ Below w.heap.size w w' := by
  have hcon : ∀ w, Calls Tryz.prog 95 #[.int .i64 n0, .int .i64 n1] w fun e w' => e = .returned (.tuple #[mtv m, .bool ok]) ∧ Below w.heap.size w w' := fun w => by
    rw [← hm.out.1, ← hm.out.2]; exact sfilter_any n0 n1 w
  obtain ⟨k, hk⟩ : ∃ k : Int, k = 102 := ⟨_, rfl⟩
  rw [← hk]
  obtain ⟨g, cap, rfl, hcap, hcm, hlt, hc⟩ := hn
  have c0 := hc 0 n0 rfl
  have c1 := hc 1 n1 rfl
  have hcap2 : 2 ≤ cap := hcap
  clear hc hcap
  obtain ⟨W0, hW0, hC, hR, hB0, hpl, hgl, hrl, hgr⟩ : ∃ W, W = (w.alloc (.cells #[.int .u8 k, .slice (some ⟨g, 0, none⟩) 2 cap] 90)).alloc (.cells #[.int .i64 0, .int .i64 0, .int .i64 0, .int .i64 0, .int .i64 0, .int .i64 0, .int .i64 0, .int .i64 0, .int .i64 0, .int .i64 0, .int .i64 0, .int .i64 0] 85) ∧ NP2 w.heap.size g cap k n0 n1 W ∧ Blk W (w.heap.size + 1) (mtc ⟨zK, zK, zK, zK⟩) 85 ∧ Below w.heap.size w W ∧ w.heap.size < W.heap.size ∧ g < W.heap.size ∧ w.heap.size + 1 < W.heap.size ∧ g ≠ w.heap.size + 1 := by
    have hb : Below w.heap.size w ((w.alloc (.cells #[.int .u8 k, .slice (some ⟨g, 0, none⟩) 2 cap] 90)).alloc (.cells #[.int .i64 0, .int .i64 0, .int .i64 0, .int .i64 0, .int .i64 0, .int .i64 0, .int .i64 0, .int .i64 0, .int .i64 0, .int .i64 0, .int .i64 0, .int .i64 0] 85)) := by exact below_
    refine ⟨_, rfl, ⟨?_, ?_, (hb.cell (p := ⟨_, _, _⟩) hlt).trans c0, (hb.cell (p := ⟨_, _, _⟩) hlt).trans c1⟩, ?_, hb, by simp; omega, by simp; omega, by simp, by omega⟩
    · exact (((Below.refl _ _).alloc (Nat.le_refl _) _).cell (p := ⟨_, _, _⟩) (by simp)).trans (World.cell?_alloc_at _ _ _ _ rfl)
    · exact (((Below.refl _ _).alloc (Nat.le_refl _) _).cell (p := ⟨_, _, _⟩) (by simp)).trans (World.cell?_alloc_at _ _ _ _ rfl)
    · have := heap_alloc_last (w.alloc (.cells #[.int .u8 k, .slice (some ⟨g, 0, none⟩) 2 cap] 90)) (.cells (mtc ⟨zK, zK, zK, zK⟩) 85)
      rwa [World.size_alloc] at this
  obtain ⟨p0, p1, d0, d1⟩ := hC
  have hC : NP2 w.heap.size g cap k n0 n1 W0 := ⟨p0, p1, d0, d1⟩
  have hpr : w.heap.size ≠ w.heap.size + 1 := by omega
  clear c0 c1
  have HK := Lib.hid hk
  have k1 : (k == 114) = false := by rw [hk]; rfl
  have k2 : (k == 119) = false := by rw [hk]; rfl
  have k3 : (k == 102) = true := by rw [hk]; rfl
  have k4 : (k == 97) = false := by rw [hk]; rfl
  clear hk
  go_enter Tryz.func64, Tryz.ntmps64
  go_upto_region 7 with fail
  rw [← hW0]
  clear hW0
  go_region_held3 (fun w' => w'.cell? ⟨w.heap.size, 0, none⟩ = some (.int .u8 k) ∧ w'.cell? ⟨w.heap.size, 1, none⟩ = some (.slice (some ⟨g, 0, none⟩) 2 cap) ∧ w'.cell? ⟨g, 0, none⟩ = some (.int .i64 n0) ∧ w'.cell? ⟨g, 1, none⟩ = some (.int .i64 n1)) ((first | (refine hC.of hpl hgl ?_; with_reducible first | assumption | exact Below.drew (by assumption) | exact Below.refl _ _ | exact Below.drew (Below.refl _ _)) | (exact NP2.after (hC.of hpl hgl (by with_reducible assumption)) hpr hgr _ _ _ _ _ _ _ _ _ _ _ _))) (first | (go_at_call 95; (with_reducible refine (hcon _).mono ?_); rintro e w1 ⟨rfl, hb⟩; have hB : Below W0.heap.size W0 w1 := bstep (by (repeat' (first | (with_reducible exact Below.refl _ _) | (with_reducible assumption) | (with_reducible refine Below.setCell ?_ (by first | omega | (simp; done) | (simp; omega)) _) | (with_reducible refine Below.alloc ?_ (by first | omega | (simp; done) | (simp; omega)) _) | (with_reducible refine below_drewN ?_ _) | (with_reducible refine Below.drew ?_)))) hb side_; have hMr := (hB.block _ hrl).trans hR; obtain ⟨ho1, ho2⟩ := mat_out hMr; have k0 := ho1 0 (by decide); have k1 := ho1 1 (by decide); have k2 := ho1 2 (by decide); have k3 := ho1 3 (by decide); have k4 := ho1 4 (by decide); have k5 := ho1 5 (by decide); have k6 := ho1 6 (by decide); have k7 := ho1 7 (by decide); have k8 := ho1 8 (by decide); have k9 := ho1 9 (by decide); have k10 := ho1 10 (by decide); have k11 := ho1 11 (by decide); clear ho1 hb hMr))
  have hBw : Below w.heap.size w w1 := bstep hB0 hB hB0.size
  (try go_wp2)
  exact bodyPost_ret (v := .tuple #[mtv m, .bool ok]) (by simp [results, Tryz.results64, mtv, go_sem, *]) rfl ⟨rfl, by exact below_⟩
set_option maxRecDepth 100000 in
set_option maxHeartbeats 8000000 in
theorem smat_a (nv : Value) (n0 n1 : Int) (f : Fr) (w : World) (hn : NumsAt w nv [n0, n1]) (h1 : 1 ≤ n1) (h2 : n1 ≤ 100) (h3 : 0 ≤ n0) (h4 : n0 ≤ n1) (hf : Hid (shareF n0 n1 = f)) :
    Calls Tryz.prog 64 #[.agg #[.int .u8 97, nv]] w fun e w' => e = .returned (.tuple #[mtv (diagM f f), .bool true]) ∧ Below w.heap.size w w' := by
  have hNW := hn
  obtain ⟨k, hk⟩ : ∃ k : Int, k = 97 := ⟨_, rfl⟩
  rw [← hk]
  obtain ⟨g, cap, rfl, hcap, hcm, hlt, hc⟩ := hn
  have c0 := hc 0 n0 rfl
  have c1 := hc 1 n1 rfl
  have hcap2 : 2 ≤ cap := hcap
  clear hc hcap
  obtain ⟨W0, hW0, hC, hR, hB0, hpl, hgl, hrl, hgr⟩ : ∃ W, W = (w.alloc (.cells #[.int .u8 k, .slice (some ⟨g, 0, none⟩) 2 cap] 90)).alloc (.cells #[.int .i64 0, .int .i64 0, .int .i64 0, .int .i64 0, .int .i64 0, .int .i64 0, .int .i64 0, .int .i64 0, .int .i64 0, .int .i64 0, .int .i64 0, .int .i64 0] 85) ∧ NP2 w.heap.size g cap k n0 n1 W ∧ Blk W (w.heap.size + 1) (mtc ⟨zK, zK, zK, zK⟩) 85 ∧ Below w.heap.size w W ∧ w.heap.size < W.heap.size ∧ g < W.heap.size ∧ w.heap.size + 1 < W.heap.size ∧ g ≠ w.heap.size + 1 := by
    have hb : Below w.heap.size w ((w.alloc (.cells #[.int .u8 k, .slice (some ⟨g, 0, none⟩) 2 cap] 90)).alloc (.cells #[.int .i64 0, .int .i64 0, .int .i64 0, .int .i64 0, .int .i64 0, .int .i64 0, .int .i64 0, .int .i64 0, .int .i64 0, .int .i64 0, .int .i64 0, .int .i64 0] 85)) := by exact below_
    refine ⟨_, rfl, ⟨?_, ?_, (hb.cell (p := ⟨_, _, _⟩) hlt).trans c0, (hb.cell (p := ⟨_, _, _⟩) hlt).trans c1⟩, ?_, hb, by simp; omega, by simp; omega, by simp, by omega⟩
    · exact (((Below.refl _ _).alloc (Nat.le_refl _) _).cell (p := ⟨_, _, _⟩) (by simp)).trans (World.cell?_alloc_at _ _ _ _ rfl)
    · exact (((Below.refl _ _).alloc (Nat.le_refl _) _).cell (p := ⟨_, _, _⟩) (by simp)).trans (World.cell?_alloc_at _ _ _ _ rfl)
    · have := heap_alloc_last (w.alloc (.cells #[.int .u8 k, .slice (some ⟨g, 0, none⟩) 2 cap] 90)) (.cells (mtc ⟨zK, zK, zK, zK⟩) 85)
      rwa [World.size_alloc] at this
  obtain ⟨p0, p1, d0, d1⟩ := hC
  have hC : NP2 w.heap.size g cap k n0 n1 W0 := ⟨p0, p1, d0, d1⟩
  have hpr : w.heap.size ≠ w.heap.size + 1 := by omega
  clear c0 c1
  have HK := Lib.hid hk
  have k1 : (k == 114) = false := by rw [hk]; rfl
  have k2 : (k == 119) = false := by rw [hk]; rfl
  have k3 : (k == 102) = false := by rw [hk]; rfl
  have k4 : (k == 97) = true := by rw [hk]; rfl
  clear hk
  have hNum : NumsAt W0 (.slice (some ⟨g, 0, none⟩) 2 cap) [n0, n1] := hNW.below hB0
  clear hNW
  have hcon : ∀ w', Below W0.heap.size W0 w' → Calls Tryz.prog 96 #[.agg #[.int .u8 k, .slice (some ⟨g, 0, none⟩) 2 cap]] w' fun e w'' => e = .returned (frv f) ∧ Below w'.heap.size w' w'' := fun w' hb => by
    rw [← hf.out]; exact spart_any k (.slice (some ⟨g, 0, none⟩) 2 cap) n0 n1 w' (hNum.below hb) h1 h2 h3 h4
  go_enter Tryz.func64, Tryz.ntmps64
  go_upto_region 9 with fail
  rw [← hW0]
  clear hW0
  go_wp2_with (first | (go_at_call 96; (with_reducible refine (hcon _ (Below.refl _ _)).mono ?_); rintro e w1 ⟨rfl, hb⟩; have hB := hb; have hl := hB.size; have hMr := (hB.block _ hrl).trans hR; obtain ⟨ho1, ho2⟩ := mat_out hMr; have kk0 := ho1 0 (by decide); have kk1 := ho1 1 (by decide); have kk2 := ho1 2 (by decide); have kk3 := ho1 3 (by decide); have kk4 := ho1 4 (by decide); have kk5 := ho1 5 (by decide); have kk6 := ho1 6 (by decide); have kk7 := ho1 7 (by decide); have kk8 := ho1 8 (by decide); have kk9 := ho1 9 (by decide); have kk10 := ho1 10 (by decide); have kk11 := ho1 11 (by decide); clear ho1 hb hMr) | (go_at_call 97; (with_reducible refine (sone_any f f _).mono ?_); rintro e w2 ⟨rfl, hb⟩; have hB : Below W0.heap.size W0 w2 := bstep (by (repeat' (first | (with_reducible exact Below.refl _ _) | (with_reducible assumption) | (with_reducible refine Below.setCell ?_ (by first | omega | (simp; done) | (simp; omega)) _) | (with_reducible refine Below.alloc ?_ (by first | omega | (simp; done) | (simp; omega)) _) | (with_reducible refine below_drewN ?_ _) | (with_reducible refine Below.drew ?_)))) hb side_; have hl := hB.size; have hMr := (hB.block _ hrl).trans hR; obtain ⟨ho1, ho2⟩ := mat_out hMr; have k0 := ho1 0 (by decide); have k1 := ho1 1 (by decide); have k2 := ho1 2 (by decide); have k3 := ho1 3 (by decide); have k4 := ho1 4 (by decide); have k5 := ho1 5 (by decide); have k6 := ho1 6 (by decide); have k7 := ho1 7 (by decide); have k8 := ho1 8 (by decide); have k9 := ho1 9 (by decide); have k10 := ho1 10 (by decide); have k11 := ho1 11 (by decide); clear ho1 hb hMr))
  have hBw := bstep hB0 (by with_reducible assumption) hB0.size
  (try go_wp2)
  exact bodyPost_ret (v := .tuple #[mtv (diagM f f), .bool true]) (by simp [results, Tryz.results64, mtv, diagM, go_sem, *]) rfl ⟨rfl, by exact below_⟩
set_option maxHeartbeats 4000000 in
theorem smat_d (A : Option Addr) (len cap : Nat) (w : World) :
    Calls Tryz.prog 64 #[.agg #[.int .u8 100, .slice A len cap]] w fun e w' => e = .returned (mtb none) ∧ Below w.heap.size w w' := by
  go_enter Tryz.func64, Tryz.ntmps64
  go_wp2
  exact bodyPost_ret (v := mtb none) (by simp [results, Tryz.results64, go_sem, *]) rfl ⟨rfl, by exact below_⟩
theorem smat_any (x : Pc) (nv : Value) (w : World) (ho : pcOk x.k x.ns = true) (hn : NumsAt w nv x.ns) :
    Calls Tryz.prog 64 #[.agg #[.int .u8 x.k.toNat, nv]] w fun e w' => e = .returned (mtb (pcMat x)) ∧ Below w.heap.size w w' := by
  obtain ⟨k, ns⟩ := x
  match ns, ho, hn with
  | [], ho, hn => cases ho
  | [_], ho, hn => cases ho
  | [p, q], ho, hn =>
    by_cases h1 : k = 114
    · subst h1
      exact smat_r nv p q _ _ w hn (Lib.hid ⟨rfl, rfl⟩)
    by_cases h2 : k = 102
    · subst h2
      exact smat_f nv p q _ _ w hn (Lib.hid ⟨rfl, rfl⟩)
    have hz : pcOk k [p, q] = (if k = 97 ∨ k = 100 then inB q 1 100 && inB p 0 q else false) := by
      show (if k = 114 ∨ k = 102 then dirOk p q else if k = 97 ∨ k = 100 then inB q 1 100 && inB p 0 q else false) = _
      rw [if_neg (fun hh => hh.elim h1 h2)]
    have ho2 : pcOk k [p, q] = true := ho
    rw [hz] at ho2
    by_cases h3 : k = 97
    · subst h3
      rw [if_pos (.inl rfl)] at ho2
      simp only [Bool.and_eq_true, inB_iff] at ho2
      exact smat_a nv p q _ w hn ho2.1.1 ho2.1.2 ho2.2.1 ho2.2.2 rfl
    by_cases h4 : k = 100
    · subst h4
      obtain ⟨g, cap, rfl, -⟩ := hn
      exact smat_d _ _ _ w
    · rw [if_neg (fun hh => hh.elim h3 h4)] at ho2
      cases ho2
  | [p, q, n], ho, hn =>
    have ho2 : (if k = 119 then dirOk p q && inB n 0 3 else false) = true := ho
    by_cases h1 : k = 119
    · subst h1
      exact smat_w nv p q n _ _ w hn (Lib.hid ⟨rfl, rfl⟩)
    · rw [if_neg h1] at ho2; cases ho2
  | _ :: _ :: _ :: _ :: _, ho, hn => cases ho
end Go.Proofs.YtkdggljioekkhaaGreatDoor
