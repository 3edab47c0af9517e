/-
  The drawer of DrawMeterTurn, and the walk of FnTurn: it returns true, for all codes.
-/
import Derived.Test.YtodhbkinbcemnaaDoorQz
import Derived.Test.YtodhbkinbcemnaaDoorYf
namespace Go.Proofs.YtodhbkinbcemnaaDoor
set_option linter.unusedSimpArgs false
set_option linter.unusedVariables false
open Go.RowKit
attribute [local go_sem ↓] Go.wp_at_zero Go.wp_at_succ
theorem blk_sta {W : World} {b : Nat} {s : Sta} {ty : TypeId} (h : Blk W b #[.int .i64 s.p, .int .i64 s.q] ty) : W.cell? ⟨b, 0, none⟩ = some (.int .i64 s.p) ∧ W.cell? ⟨b, 1, none⟩ = some (.int .i64 s.q) :=
  ⟨by simp [World.cell?, h], by simp [World.cell?, h]⟩
theorem sas_oneT {s : Sta} {W : World} {b : Nat} (h : Blk W b #[.int .i64 s.p, .int .i64 s.q] 37) : Sas (some ⟨b, 0, none⟩) 1 1 [s] W := by
  refine ⟨rfl, Nat.le_refl _, by decide, fun _ => ⟨b, 0, rfl, blk_lt h, fun i x hi => ?_⟩⟩
  match i, hi with
  | 0, hi =>
    obtain rfl := Option.some.inj hi
    exact ⟨by simp [World.cell?, h], by simp [World.cell?, h]⟩
theorem step_ofT {P : Program} {ops : Array Oper} {o : Oper} {a : Act} {W : World} {K : Act → World → Prop} {Q : Exit → Act → World → Prop} {E : Prop} (hgd : o.guard = none) (h : o.wp P a W K Q) :
    if Region.wanted o (yielded ops a.tmps) = true then Oper.wp P o a W K Q else E := by
  have hw : Region.wanted o (yielded ops a.tmps) = true := by simp [Region.wanted, hgd]
  rw [if_pos hw]
  exact h
/-- What the last region of DrawMeterTurn keeps: the three values' blocks, the results' blocks. -/
structure KT (w : World) (bm ba bb : Nat) (m : Mt) (a b : Sta) (c0 c1 c2 : Array Value) (W : World) : Prop where
  B : Below w.heap.size w W
  m : Blk W bm (mtc m) 35
  a : Blk W ba #[.int .i64 a.p, .int .i64 a.q] 37
  b : Blk W bb #[.int .i64 b.p, .int .i64 b.q] 37
  r0 : Blk W w.heap.size c0 35
  r1 : Blk W (w.heap.size + 1) c1 37
  r2 : Blk W (w.heap.size + 1 + 1) c2 37
  l : w.heap.size + 1 + 1 < bm ∧ w.heap.size + 1 + 1 < ba ∧ w.heap.size + 1 + 1 < bb
section
variable {w W W' : World} {bm ba bb : Nat} {m : Mt} {a b : Sta} {c0 c1 c2 : Array Value}
theorem KT.cells (h : KT w bm ba bb m a b c0 c1 c2 W) : W.cell? ⟨bm, 0, none⟩ = some (.int .i64 m.a.re) ∧ W.cell? ⟨bm, 1, none⟩ = some (.int .i64 m.a.im) ∧ W.cell? ⟨bm, 2, none⟩ = some (.int .i64 m.a.den) ∧ W.cell? ⟨bm, 3, none⟩ = some (.int .i64 m.b.re) ∧ W.cell? ⟨bm, 4, none⟩ = some (.int .i64 m.b.im) ∧ W.cell? ⟨bm, 5, none⟩ = some (.int .i64 m.b.den) ∧ W.cell? ⟨bm, 6, none⟩ = some (.int .i64 m.c.re) ∧ W.cell? ⟨bm, 7, none⟩ = some (.int .i64 m.c.im) ∧ W.cell? ⟨bm, 8, none⟩ = some (.int .i64 m.c.den) ∧ W.cell? ⟨bm, 9, none⟩ = some (.int .i64 m.d.re) ∧ W.cell? ⟨bm, 10, none⟩ = some (.int .i64 m.d.im) ∧ W.cell? ⟨bm, 11, none⟩ = some (.int .i64 m.d.den) ∧ W.cell? ⟨ba, 0, none⟩ = some (.int .i64 a.p) ∧ W.cell? ⟨ba, 1, none⟩ = some (.int .i64 a.q) ∧ W.cell? ⟨bb, 0, none⟩ = some (.int .i64 b.p) ∧ W.cell? ⟨bb, 1, none⟩ = some (.int .i64 b.q) := by
  obtain ⟨p0, p1, p2, p3, p4, p5, p6, p7, p8, p9, p10, p11⟩ := blk_m h.m
  have h1 := h.a
  have h2 := h.b
  exact ⟨p0, p1, p2, p3, p4, p5, p6, p7, p8, p9, p10, p11, by simp [World.cell?, h1], by simp [World.cell?, h1], by simp [World.cell?, h2], by simp [World.cell?, h2]⟩
theorem KT.drew (h : KT w bm ba bb m a b c0 c1 c2 W) : KT w bm ba bb m a b c0 c1 c2 W.drew := ⟨h.B.drew, h.m, h.a, h.b, h.r0, h.r1, h.r2, h.l⟩
theorem KT.put0 (h : KT w bm ba bb m a b c0 c1 c2 W) (cs : Array Value) : KT w bm ba bb m a b cs c1 c2 (W.setRow w.heap.size cs) := by
  obtain ⟨l1, l2, l3⟩ := h.l
  exact ⟨below_setRow h.B (Nat.le_refl _) _, (setRow_far _ _ _ _ (by omega)).trans h.m, (setRow_far _ _ _ _ (by omega)).trans h.a, (setRow_far _ _ _ _ (by omega)).trans h.b, setRow_heap _ _ _ _ _ _ h.r0, (setRow_far _ _ _ _ (by omega)).trans h.r1, (setRow_far _ _ _ _ (by omega)).trans h.r2, h.l⟩
theorem KT.put1 (h : KT w bm ba bb m a b c0 c1 c2 W) (cs : Array Value) : KT w bm ba bb m a b c0 cs c2 (W.setRow (w.heap.size + 1) cs) := by
  obtain ⟨l1, l2, l3⟩ := h.l
  exact ⟨below_setRow h.B (by omega) _, (setRow_far _ _ _ _ (by omega)).trans h.m, (setRow_far _ _ _ _ (by omega)).trans h.a, (setRow_far _ _ _ _ (by omega)).trans h.b, (setRow_far _ _ _ _ (by omega)).trans h.r0, setRow_heap _ _ _ _ _ _ h.r1, (setRow_far _ _ _ _ (by omega)).trans h.r2, h.l⟩
theorem KT.put2 (h : KT w bm ba bb m a b c0 c1 c2 W) (cs : Array Value) : KT w bm ba bb m a b c0 c1 cs (W.setRow (w.heap.size + 1 + 1) cs) := by
  obtain ⟨l1, l2, l3⟩ := h.l
  exact ⟨below_setRow h.B (by omega) _, (setRow_far _ _ _ _ (by omega)).trans h.m, (setRow_far _ _ _ _ (by omega)).trans h.a, (setRow_far _ _ _ _ (by omega)).trans h.b, (setRow_far _ _ _ _ (by omega)).trans h.r0, (setRow_far _ _ _ _ (by omega)).trans h.r1, setRow_heap _ _ _ _ _ _ h.r2, h.l⟩
theorem KT.belX (h : KT w bm ba bb m a b c0 c1 c2 W) {br : Nat} (hX : BelX W.heap.size br W W') (hr : w.heap.size + 1 + 1 < br ∧ br < bm ∧ br < ba ∧ br < bb ∧ br < W.heap.size) : KT w bm ba bb m a b c0 c1 c2 W' :=
  ⟨(BelX.step (BelX.of h.B) hX h.B.size).below (by omega), (hX.block _ (blk_lt h.m) (by omega)).trans h.m, (hX.block _ (blk_lt h.a) (by omega)).trans h.a, (hX.block _ (blk_lt h.b) (by omega)).trans h.b, (hX.block _ (blk_lt h.r0) (by omega)).trans h.r0, (hX.block _ (blk_lt h.r1) (by omega)).trans h.r1, (hX.block _ (blk_lt h.r2) (by omega)).trans h.r2, h.l⟩
end
/-- What the stores keep: the three values' blocks. -/
structure KS (w : World) (bm ba bb : Nat) (m : Mt) (a b : Sta) (W : World) : Prop where
  m : Blk W bm (mtc m) 35
  a : Blk W ba #[.int .i64 a.p, .int .i64 a.q] 37
  b : Blk W bb #[.int .i64 b.p, .int .i64 b.q] 37
  l : w.heap.size + 1 + 1 < bm ∧ w.heap.size + 1 + 1 < ba ∧ w.heap.size + 1 + 1 < bb
section
variable {w W W' : World} {bm ba bb : Nat} {m : Mt} {a b : Sta} {c0 c1 c2 : Array Value}
theorem KT.ks (h : KT w bm ba bb m a b c0 c1 c2 W) : KS w bm ba bb m a b W := ⟨h.m, h.a, h.b, h.l⟩
theorem KS.drew (h : KS w bm ba bb m a b W) : KS w bm ba bb m a b W.drew := ⟨h.m, h.a, h.b, h.l⟩
theorem KS.cell (h : KS w bm ba bb m a b W) (p : Addr) (u : Value) (hp : p.block ≤ w.heap.size + 1 + 1) : KS w bm ba bb m a b (W.setCell p u) := by
  obtain ⟨l1, l2, l3⟩ := h.l
  exact ⟨(Below.heap_setCell _ _ _ _ (by omega)).trans h.m, (Below.heap_setCell _ _ _ _ (by omega)).trans h.a, (Below.heap_setCell _ _ _ _ (by omega)).trans h.b, h.l⟩
theorem KS.cells (h : KS w bm ba bb m a b W) : W.cell? ⟨bm, 0, none⟩ = some (.int .i64 m.a.re) ∧ W.cell? ⟨bm, 1, none⟩ = some (.int .i64 m.a.im) ∧ W.cell? ⟨bm, 2, none⟩ = some (.int .i64 m.a.den) ∧ W.cell? ⟨bm, 3, none⟩ = some (.int .i64 m.b.re) ∧ W.cell? ⟨bm, 4, none⟩ = some (.int .i64 m.b.im) ∧ W.cell? ⟨bm, 5, none⟩ = some (.int .i64 m.b.den) ∧ W.cell? ⟨bm, 6, none⟩ = some (.int .i64 m.c.re) ∧ W.cell? ⟨bm, 7, none⟩ = some (.int .i64 m.c.im) ∧ W.cell? ⟨bm, 8, none⟩ = some (.int .i64 m.c.den) ∧ W.cell? ⟨bm, 9, none⟩ = some (.int .i64 m.d.re) ∧ W.cell? ⟨bm, 10, none⟩ = some (.int .i64 m.d.im) ∧ W.cell? ⟨bm, 11, none⟩ = some (.int .i64 m.d.den) ∧ W.cell? ⟨ba, 0, none⟩ = some (.int .i64 a.p) ∧ W.cell? ⟨ba, 1, none⟩ = some (.int .i64 a.q) ∧ W.cell? ⟨bb, 0, none⟩ = some (.int .i64 b.p) ∧ W.cell? ⟨bb, 1, none⟩ = some (.int .i64 b.q) := by
  obtain ⟨p0, p1, p2, p3, p4, p5, p6, p7, p8, p9, p10, p11⟩ := blk_m h.m
  have h1 := h.a
  have h2 := h.b
  exact ⟨p0, p1, p2, p3, p4, p5, p6, p7, p8, p9, p10, p11, by simp [World.cell?, h1], by simp [World.cell?, h1], by simp [World.cell?, h2], by simp [World.cell?, h2]⟩
/-- The results' cells may be written. -/
theorem KT.out (h : KT w bm ba bb m a b (mtc zm) #[.int .i64 0, .int .i64 0] #[.int .i64 0, .int .i64 0] W) : (∀ j, W.frozen? ⟨w.heap.size, j, none⟩ = false) ∧ (∀ j, W.frozen? ⟨w.heap.size + 1, j, none⟩ = false) ∧ (∀ j, W.frozen? ⟨w.heap.size + 1 + 1, j, none⟩ = false) ∧ W.cell? ⟨w.heap.size, 0, none⟩ = some (.int .i64 0) ∧ W.cell? ⟨w.heap.size, 1, none⟩ = some (.int .i64 0) ∧ W.cell? ⟨w.heap.size, 2, none⟩ = some (.int .i64 0) ∧ W.cell? ⟨w.heap.size, 3, none⟩ = some (.int .i64 0) ∧ W.cell? ⟨w.heap.size, 4, none⟩ = some (.int .i64 0) ∧ W.cell? ⟨w.heap.size, 5, none⟩ = some (.int .i64 0) ∧ W.cell? ⟨w.heap.size, 6, none⟩ = some (.int .i64 0) ∧ W.cell? ⟨w.heap.size, 7, none⟩ = some (.int .i64 0) ∧ W.cell? ⟨w.heap.size, 8, none⟩ = some (.int .i64 0) ∧ W.cell? ⟨w.heap.size, 9, none⟩ = some (.int .i64 0) ∧ W.cell? ⟨w.heap.size, 10, none⟩ = some (.int .i64 0) ∧ W.cell? ⟨w.heap.size, 11, none⟩ = some (.int .i64 0) ∧ W.cell? ⟨w.heap.size + 1, 0, none⟩ = some (.int .i64 0) ∧ W.cell? ⟨w.heap.size + 1, 1, none⟩ = some (.int .i64 0) ∧ W.cell? ⟨w.heap.size + 1 + 1, 0, none⟩ = some (.int .i64 0) ∧ W.cell? ⟨w.heap.size + 1 + 1, 1, none⟩ = some (.int .i64 0) := by
  have h0 := h.r0
  have h1 := h.r1
  have h2 := h.r2
  obtain ⟨p0, p1, p2, p3, p4, p5, p6, p7, p8, p9, p10, p11⟩ := blk_m (m := zm) h0
  exact ⟨fun j => by simp [World.frozen?, h0], fun j => by simp [World.frozen?, h1], fun j => by simp [World.frozen?, h2], p0, p1, p2, p3, p4, p5, p6, p7, p8, p9, p10, p11, by simp [World.cell?, h1], by simp [World.cell?, h1], by simp [World.cell?, h2], by simp [World.cell?, h2]⟩
end
theorem szSta (s : Sta) : ((Tryd.prog).info? 37).map (·.size) = some (#[Value.int .i64 s.p, .int .i64 s.q]).size := by kernel_rfl
theorem szStkT (m : Mt) : ((Tryd.prog).info? 35).map (·.size) = some (mtc m).size := by kernel_rfl
theorem sta_one (s : Sta) : (#[Value.int .i64 s.p, .int .i64 s.q]).all (·.oneCell') = true := by simp [Value.oneCell']
theorem mtc_oneT (m : Mt) : (mtc m).all (·.oneCell') = true := by simp [mtc, Value.oneCell']
set_option maxRecDepth 100000 in
set_option maxHeartbeats 8000000 in
theorem drawMeterTurn_any (A : Option Addr) (len cap : Nat) (w : World) (hby : Bytes A len cap w) :
    Calls Tryd.prog 12 #[.slice A len cap] w fun e w' => ∃ (m : Mt) (a b : Sta) (n : Int), e = .returned (.tuple #[mtv m, stv a, stv b, .int .i64 n]) ∧ Below w.heap.size w w' := by
  go_enter Tryd.func12, Tryd.ntmps12
  obtain ⟨W0, hW0, hP⟩ : ∃ W, W = ((w.alloc (.cells #[.int .i64 0, .int .i64 0, .int .i64 0, .int .i64 0, .int .i64 0, .int .i64 0, .int .i64 0, .int .i64 0, .int .i64 0, .int .i64 0, .int .i64 0, .int .i64 0] 35)).alloc (.cells #[.int .i64 0, .int .i64 0] 37)).alloc (.cells #[.int .i64 0, .int .i64 0] 37) ∧ MH w ([] ++ [(w.heap.size, mtc zm, 35)] ++ [(w.heap.size + 1, #[.int .i64 0, .int .i64 0], 37)] ++ [(w.heap.size + 1 + 1, #[.int .i64 0, .int .i64 0], 37)]) W := by
    have h0 := (((MH.start (w := w)).alloc (cs := mtc zm) (ty := 35)).alloc (cs := #[.int .i64 0, .int .i64 0]) (ty := 37)).alloc (cs := #[.int .i64 0, .int .i64 0]) (ty := 37)
    simp only [World.size_alloc] at h0
    exact ⟨_, rfl, h0⟩
  go_upto_region 1 with fail
  rw [← hW0]
  clear hW0
  have hwz : w.heap.size + 1 + 1 < W0.heap.size := blk_lt (hP.at (b := w.heap.size + 1 + 1) (cs := #[.int .i64 0, .int .i64 0]) (ty := 37) (by simp))
  go_upto_region 2 with (first | (go_at_call 33; (with_reducible refine (openB A len cap _ W0.heap.size rfl (hby.below hP.B)).mono ?_); rintro e w1 ⟨rfl, hr1, hb⟩))
  have hC1 : Below W0.heap.size W0 w1 := hb
  clear hb
  go_upto_region 3 with (first | (go_at_call 34; (with_reducible refine (dlight_any W0.heap.size _ (RdEx.of hr1 (by omega))).mono ?_); rintro e w2 ⟨m, rfl, ⟨hu, hX⟩, -⟩))
  have hrv := hu _ hr1
  have hlt := hrv.lt
  have hCv : Below W0.heap.size W0 w2 := (BelX.step (BelX.of hC1) hX hC1.size).below (Nat.le_refl _)
  obtain ⟨bm, hbm⟩ : ∃ b, b = w2.heap.size := ⟨_, rfl⟩
  obtain ⟨W2, hW2, hr2, hC2, hkbm, hlbm⟩ : ∃ W, W = w2.alloc (.cells #[.int .i64 m.a.re, .int .i64 m.a.im, .int .i64 m.a.den, .int .i64 m.b.re, .int .i64 m.b.im, .int .i64 m.b.den, .int .i64 m.c.re, .int .i64 m.c.im, .int .i64 m.c.den, .int .i64 m.d.re, .int .i64 m.d.im, .int .i64 m.d.den] 35) ∧ RdIs W W0.heap.size _ ∧ Below W0.heap.size W0 W ∧ Blk W bm (mtc m) 35 ∧ W0.heap.size < bm := by
    exact ⟨_, rfl, hrv.alloc _, hCv.alloc hCv.size _, by rw [hbm]; exact heap_alloc_last w2 _, by rw [hbm]; omega⟩
  rw [← hW2, ← hbm]
  clear hW2 hbm hu hX hrv hlt hCv hr1 hC1
  go_upto_region 4 with (first | (go_at_call 35; (with_reducible refine (dstation_any W0.heap.size _ (RdEx.of hr2 (by omega))).mono ?_); rintro e w3 ⟨a, rfl, ⟨hu, hX⟩, -⟩))
  have hrv := hu _ hr2
  have hlt := hrv.lt
  have hCv : Below W0.heap.size W0 w3 := (BelX.step (BelX.of hC2) hX hC2.size).below (Nat.le_refl _)
  obtain ⟨ba, hba⟩ : ∃ b, b = w3.heap.size := ⟨_, rfl⟩
  obtain ⟨W3, hW3, hr3, hC3, hkbm, hkba, hlba⟩ : ∃ W, W = w3.alloc (.cells #[.int .i64 a.p, .int .i64 a.q] 37) ∧ RdIs W W0.heap.size _ ∧ Below W0.heap.size W0 W ∧ Blk W bm (mtc m) 35 ∧ Blk W ba (#[.int .i64 a.p, .int .i64 a.q]) 37 ∧ W0.heap.size < ba := by
    have hD : BelX W2.heap.size W0.heap.size W2 (w3.alloc (.cells #[.int .i64 a.p, .int .i64 a.q] 37)) := hX.alloc hX.size _
    exact ⟨_, rfl, hrv.alloc _, hCv.alloc hCv.size _, (hD.block _ (blk_lt hkbm) (by omega)).trans hkbm, by rw [hba]; exact heap_alloc_last w3 _, by rw [hba]; omega⟩
  rw [← hW3, ← hba]
  clear hW3 hba hu hX hrv hlt hCv hr2 hC2
  go_upto_region 5 with (first | (go_at_call 35; (with_reducible refine (dstation_any W0.heap.size _ (RdEx.of hr3 (by omega))).mono ?_); rintro e w4 ⟨b, rfl, ⟨hu, hX⟩, -⟩))
  have hrv := hu _ hr3
  have hlt := hrv.lt
  have hCv : Below W0.heap.size W0 w4 := (BelX.step (BelX.of hC3) hX hC3.size).below (Nat.le_refl _)
  obtain ⟨bb, hbb⟩ : ∃ b, b = w4.heap.size := ⟨_, rfl⟩
  obtain ⟨W4, hW4, hr4, hC4, hkbm, hkba, hkbb, hlbb⟩ : ∃ W, W = w4.alloc (.cells #[.int .i64 b.p, .int .i64 b.q] 37) ∧ RdIs W W0.heap.size _ ∧ Below W0.heap.size W0 W ∧ Blk W bm (mtc m) 35 ∧ Blk W ba (#[.int .i64 a.p, .int .i64 a.q]) 37 ∧ Blk W bb (#[.int .i64 b.p, .int .i64 b.q]) 37 ∧ W0.heap.size < bb := by
    have hD : BelX W3.heap.size W0.heap.size W3 (w4.alloc (.cells #[.int .i64 b.p, .int .i64 b.q] 37)) := hX.alloc hX.size _
    exact ⟨_, rfl, hrv.alloc _, hCv.alloc hCv.size _, (hD.block _ (blk_lt hkbm) (by omega)).trans hkbm, (hD.block _ (blk_lt hkba) (by omega)).trans hkba, by rw [hbb]; exact heap_alloc_last w4 _, by rw [hbb]; omega⟩
  rw [← hW4, ← hbb]
  clear hW4 hbb hu hX hrv hlt hCv hr3 hC3
  have hK4 : KT w bm ba bb m a b (mtc zm) #[.int .i64 0, .int .i64 0] #[.int .i64 0, .int .i64 0] W4 := by
    have hQ := hP.call hC4
    exact ⟨hQ.B, hkbm, hkba, hkbb, hQ.at (by simp), hQ.at (by simp), hQ.at (by simp), by omega⟩
  have hlr : w.heap.size + 1 + 1 < W0.heap.size := hwz
  clear hP hC4 hkbm hkba hkbb hwz
  refine wp_region_noPanic ?_
  refine wp_region_held_drew (S := KS w bm ba bb m a b) (by kernel_rfl) ?_ (fun hHeld => ?_)
  · exact hK4.ks.drew
  refine wpAnyH_take (i := 0) (v := ?v0) (by simp; rfl) (by kernel_rfl) (by kernel_rfl) (by kernel_rfl) (fun _ _ _ h => h) (Or.inl ⟨by rfl, ?y0⟩) (by assumption) ?r0
  case y0 => (intro w' hSw; obtain ⟨p0, p1, p2, p3, p4, p5, p6, p7, p8, p9, p10, p11, p12, p13, p14, p15⟩ := KS.cells hSw; go_simp; first | done | with_reducible rfl)
  (try simp only [Act.put, List.setIfInBounds_toArray, List.set_cons_zero, List.set_cons_succ])
  refine wpAnyH_take (i := 1) (v := ?v1) (by simp; rfl) (by kernel_rfl) (by kernel_rfl) (by kernel_rfl) (fun _ _ _ h => h) (Or.inl ⟨by rfl, ?y1⟩) (by assumption) ?r1
  case y1 => (intro w' hSw; obtain ⟨p0, p1, p2, p3, p4, p5, p6, p7, p8, p9, p10, p11, p12, p13, p14, p15⟩ := KS.cells hSw; go_simp; first | done | with_reducible rfl)
  (try simp only [Act.put, List.setIfInBounds_toArray, List.set_cons_zero, List.set_cons_succ])
  refine wpAnyH_take (i := 2) (v := ?v2) (by simp; rfl) (by kernel_rfl) (by kernel_rfl) (by kernel_rfl) (fun _ _ _ h => h) (Or.inl ⟨by rfl, ?y2⟩) (by assumption) ?r2
  case y2 => (intro w' hSw; obtain ⟨p0, p1, p2, p3, p4, p5, p6, p7, p8, p9, p10, p11, p12, p13, p14, p15⟩ := KS.cells hSw; go_simp; first | done | with_reducible rfl)
  (try simp only [Act.put, List.setIfInBounds_toArray, List.set_cons_zero, List.set_cons_succ])
  refine wpAnyH_take (i := 3) (v := ?v3) (by simp; rfl) (by kernel_rfl) (by kernel_rfl) (by kernel_rfl) (fun _ _ _ h => h) (Or.inl ⟨by rfl, ?y3⟩) (by assumption) ?r3
  case y3 => (intro w' hSw; obtain ⟨p0, p1, p2, p3, p4, p5, p6, p7, p8, p9, p10, p11, p12, p13, p14, p15⟩ := KS.cells hSw; go_simp; first | done | with_reducible rfl)
  (try simp only [Act.put, List.setIfInBounds_toArray, List.set_cons_zero, List.set_cons_succ])
  refine wpAnyH_take (i := 5) (v := ?v5) (by simp; rfl) (by kernel_rfl) (by kernel_rfl) (by kernel_rfl) (fun _ _ _ h => h) (Or.inl ⟨by rfl, ?y5⟩) (by assumption) ?r5
  case y5 => (intro w' hSw; obtain ⟨p0, p1, p2, p3, p4, p5, p6, p7, p8, p9, p10, p11, p12, p13, p14, p15⟩ := KS.cells hSw; go_simp; first | done | with_reducible rfl)
  (try simp only [Act.put, List.setIfInBounds_toArray, List.set_cons_zero, List.set_cons_succ])
  refine wpAnyH_ready (rs := [4]) (by kernel_rfl) (by simp) ?_
  refine AllReadyH.cons (by simp; rfl) (fun K hK => ?_) AllReadyH.nil
  go_simp
  (go_at_call 36; (with_reducible refine (pick_any 4 W0.heap.size _ (by exact rd_) (by omega) (by omega)).mono ?_); rintro e w5 ⟨x4, rfl, ⟨hu, hX⟩, hx0, hx1⟩; have hr5 := hu _ hr4; have hl4 := hr4.lt; have hK5 : KT w bm ba bb m a b (mtc zm) #[.int .i64 0, .int .i64 0] #[.int .i64 0, .int .i64 0] w5 := KT.belX hK4.drew hX ⟨hlr, hlbm, hlba, hlbb, hl4⟩; clear hu hX hl4)
  refine hK.out _ _ hK5.ks (fun hHeld => ?_)
  clear hK K
  (try simp only [Act.put, List.setIfInBounds_toArray, List.set_cons_zero, List.set_cons_succ])
  refine wpAnyH_ready (rs := [6]) (by kernel_rfl) (by simp) ?_
  refine AllReadyH.cons (by simp; rfl) (fun K hK => ?_) AllReadyH.nil
  go_simp
  (go_at_call 36; (with_reducible refine (pick_any 20 W0.heap.size _ (by exact rd_) (by omega) (by omega)).mono ?_); rintro e w6 ⟨x20, rfl, ⟨hu, hX⟩, hy0, hy1⟩; have hr6 := hu _ hr5; have hl5 := hr5.lt; have hK6 : KT w bm ba bb m a b (mtc zm) #[.int .i64 0, .int .i64 0] #[.int .i64 0, .int .i64 0] w6 := KT.belX hK5 hX ⟨hlr, hlbm, hlba, hlbb, hl5⟩; clear hu hX hl5)
  refine hK.out _ _ hK6.ks (fun hHeld => ?_)
  clear hK K
  (try simp only [Act.put, List.setIfInBounds_toArray, List.set_cons_zero, List.set_cons_succ])
  refine wpAnyH_take (i := 7) (v := ?v7) (by simp; rfl) (by kernel_rfl) (by kernel_rfl) (by kernel_rfl) (fun _ _ _ h => h) (Or.inl ⟨by rfl, ?y7⟩) (by assumption) ?r7
  case y7 => (intro w' hSw; obtain ⟨p0, p1, p2, p3, p4, p5, p6, p7, p8, p9, p10, p11, p12, p13, p14, p15⟩ := KS.cells hSw; go_simp; first | done | with_reducible rfl)
  (try simp only [Act.put, List.setIfInBounds_toArray, List.set_cons_zero, List.set_cons_succ])
  refine wpAnyH_take (i := 8) (v := ?v8) (by simp; rfl) (by kernel_rfl) (by kernel_rfl) (by kernel_rfl) (fun _ _ _ h => h) (Or.inl ⟨by rfl, ?y8⟩) (by assumption) ?r8
  case y8 => (intro w' hSw; obtain ⟨p0, p1, p2, p3, p4, p5, p6, p7, p8, p9, p10, p11, p12, p13, p14, p15⟩ := KS.cells hSw; go_simp; first | done | with_reducible rfl)
  (try simp only [Act.put, List.setIfInBounds_toArray, List.set_cons_zero, List.set_cons_succ])
  refine wpAnyH_take (i := 9) (v := ?v9) (by simp; rfl) (by kernel_rfl) (by kernel_rfl) (by kernel_rfl) (fun _ _ _ h => h) (Or.inl ⟨by rfl, ?y9⟩) (by assumption) ?r9
  case y9 => (intro w' hSw; obtain ⟨p0, p1, p2, p3, p4, p5, p6, p7, p8, p9, p10, p11, p12, p13, p14, p15⟩ := KS.cells hSw; go_simp; first | done | with_reducible rfl)
  (try simp only [Act.put, List.setIfInBounds_toArray, List.set_cons_zero, List.set_cons_succ])
  refine wpAnyH_ready (rs := [10]) (by kernel_rfl) (by simp) ?_
  refine AllReadyH.cons (by simp; rfl) (fun K hK => ?_) AllReadyH.nil
  refine step_ofT rfl (wp_store_row 35 (.tmp 2) (.tmp 18) rfl w.heap.size (mtc m) rfl rfl 35 (mtc zm) hK6.r0 (szStkT m) rfl (mtc_oneT m) ?_)
  have hK7 := hK6.put0 (mtc m)
  refine hK.out _ _ hK7.ks (fun hHeld => ?_)
  clear hK K
  (try simp only [Act.put, List.setIfInBounds_toArray, List.set_cons_zero, List.set_cons_succ])
  refine wpAnyH_ready (rs := [11]) (by kernel_rfl) (by simp) ?_
  refine AllReadyH.cons (by simp; rfl) (fun K hK => ?_) AllReadyH.nil
  refine step_ofT rfl (wp_store_row 37 (.tmp 3) (.tmp 19) rfl (w.heap.size + 1) #[.int .i64 a.p, .int .i64 a.q] rfl rfl 37 #[.int .i64 0, .int .i64 0] hK7.r1 (szSta a) rfl (sta_one a) ?_)
  have hK8 := hK7.put1 #[.int .i64 a.p, .int .i64 a.q]
  refine hK.out _ _ hK8.ks (fun hHeld => ?_)
  clear hK K
  (try simp only [Act.put, List.setIfInBounds_toArray, List.set_cons_zero, List.set_cons_succ])
  refine wpAnyH_ready (rs := [12]) (by kernel_rfl) (by simp) ?_
  refine AllReadyH.cons (by simp; rfl) (fun K hK => ?_) AllReadyH.nil
  refine step_ofT rfl (wp_store_row 37 (.tmp 4) (.tmp 20) rfl (w.heap.size + 1 + 1) #[.int .i64 b.p, .int .i64 b.q] rfl rfl 37 #[.int .i64 0, .int .i64 0] hK8.r2 (szSta b) rfl (sta_one b) ?_)
  have hK9 := hK8.put2 #[.int .i64 b.p, .int .i64 b.q]
  refine hK.out _ _ hK9.ks (fun hHeld => ?_)
  clear hK K
  (try simp only [Act.put, List.setIfInBounds_toArray, List.set_cons_zero, List.set_cons_succ])
  refine wpAnyH_take (i := 13) (v := ?v13) (by simp; rfl) (by kernel_rfl) (by kernel_rfl) (by kernel_rfl) (fun _ _ _ h => h) (Or.inl ⟨by rfl, ?y13⟩) (by assumption) ?r13
  case y13 => (intro w' hSw; obtain ⟨p0, p1, p2, p3, p4, p5, p6, p7, p8, p9, p10, p11, p12, p13, p14, p15⟩ := KS.cells hSw; go_simp; first | done | with_reducible rfl)
  (try simp only [Act.put, List.setIfInBounds_toArray, List.set_cons_zero, List.set_cons_succ])
  refine wpAnyH_done (by kernel_rfl) ?_ _
  refine NoPanic.normal ?_
  obtain ⟨n, hn⟩ : ∃ x, x = IntKind.i64.wrap (x4 - IntKind.i64.wrap (IntKind.i64.wrap (x20.tdiv 19) * 5)) := ⟨_, rfl⟩
  obtain ⟨WF, hWF, hKF⟩ : ∃ W, W = ((w6.setRow w.heap.size (mtc m)).setRow (w.heap.size + 1) #[.int .i64 a.p, .int .i64 a.q]).setRow (w.heap.size + 1 + 1) #[.int .i64 b.p, .int .i64 b.q] ∧ KT w bm ba bb m a b (mtc m) #[.int .i64 a.p, .int .i64 a.q] #[.int .i64 b.p, .int .i64 b.q] W := ⟨_, rfl, hK9⟩
  rw [← hWF, ← hn]
  clear hWF hn hHeld hK9 hK8 hK7 hK6 hK5 hK4 hr4 hr5 hr6
  obtain ⟨p0, p1, p2, p3, p4, p5, p6, p7, p8, p9, p10, p11⟩ := blk_m hKF.r0
  obtain ⟨q0, q1⟩ : WF.cell? ⟨w.heap.size + 1, 0, none⟩ = some (.int .i64 a.p) ∧ WF.cell? ⟨w.heap.size + 1, 1, none⟩ = some (.int .i64 a.q) := by
    have h := hKF.r1
    exact ⟨by simp [World.cell?, h], by simp [World.cell?, h]⟩
  obtain ⟨t0, t1⟩ : WF.cell? ⟨w.heap.size + 1 + 1, 0, none⟩ = some (.int .i64 b.p) ∧ WF.cell? ⟨w.heap.size + 1 + 1, 1, none⟩ = some (.int .i64 b.q) := by
    have h := hKF.r2
    exact ⟨by simp [World.cell?, h], by simp [World.cell?, h]⟩
  go_wp2
  exact bodyPost_ret (v := .tuple #[mtv m, stv a, stv b, .int .i64 n]) (by simp [results, Tryd.results12, go_sem, *]) rfl ⟨m, a, b, n, rfl, hKF.B⟩
theorem readT (A : Option Addr) (s : Sta) (m : Mt) (g : Fr) (w : World) (hS : Sas A 1 1 [s] w) (hO : GO w) (hZ : GZ w) (hT : GT w) (e : Hid (readM [s] m = some [g])) :
    Calls Tryd.prog 14 #[.slice A 1 1, mtv m] w fun e w' => ∃ v, e = .returned (.tuple #[v, .bool true]) ∧ OwF w.heap.size v [g] w' ∧ Below w.heap.size w w' := by
  have h := read_any A 1 1 [s] m w hS hO hZ hT
  rw [e.out] at h
  exact h.mono fun e w' ⟨⟨v, h1, h2⟩, h3⟩ => ⟨v, h1, h2, h3⟩
section
attribute [local go_sem] eqF_runt
set_option maxRecDepth 100000 in
set_option maxHeartbeats 8000000 in
theorem fnTurn_walk (A : Option Addr) (len cap : Nat) (w : World) (hby : Bytes A len cap w) (hGO : GO w) (hGZ : GZ w) (hGT : GT w) :
    Calls Tryd.prog 4 #[.slice A len cap] w fun e w' => e = .returned (.bool true) ∧ Below w.heap.size w w' := by
  have hcap := hby.2.1
  have hlc := hby.1
  by_cases hbig : 1048576 < len
  · have hd : decide ((1048576 : Int) < (len : Int)) = true := by simp; omega
    go_enter Tryd.func4, Tryd.ntmps4
    go_wp2
    go_ret
    exact ⟨rfl, by exact below_⟩
  have hd : decide ((1048576 : Int) < (len : Int)) = false := by simp; omega
  go_enter Tryd.func4, Tryd.ntmps4
  go_upto_region 4 with (first | (go_at_call 12; (with_reducible refine (drawMeterTurn_any A len cap _ hby).mono ?_); rintro e w1 ⟨m, fr, st, n, rfl, hb1⟩))
  obtain ⟨b0, hb0⟩ : ∃ b, b = w1.heap.size := ⟨_, rfl⟩
  obtain ⟨W3, hW3, hP⟩ : ∃ W, W = ((w1.alloc (.cells #[.int .i64 m.a.re, .int .i64 m.a.im, .int .i64 m.a.den, .int .i64 m.b.re, .int .i64 m.b.im, .int .i64 m.b.den, .int .i64 m.c.re, .int .i64 m.c.im, .int .i64 m.c.den, .int .i64 m.d.re, .int .i64 m.d.im, .int .i64 m.d.den] 35)).alloc (.cells #[.int .i64 fr.p, .int .i64 fr.q] 37)).alloc (.cells #[.int .i64 st.p, .int .i64 st.q] 37) ∧ MH w ([] ++ [(b0, mtc m, 35)] ++ [(b0 + 1, #[.int .i64 fr.p, .int .i64 fr.q], 37)] ++ [(b0 + 1 + 1, #[.int .i64 st.p, .int .i64 st.q], 37)]) W := by
    have h0 := ((((MH.start (w := w)).call hb1).alloc (cs := mtc m) (ty := 35)).alloc (cs := #[.int .i64 fr.p, .int .i64 fr.q]) (ty := 37)).alloc (cs := #[.int .i64 st.p, .int .i64 st.q]) (ty := 37)
    simp only [World.size_alloc, ← hb0] at h0
    exact ⟨_, rfl, h0⟩
  rw [← hW3, ← hb0]
  clear hW3 hb0 hb1
  obtain ⟨rs, ok, hq⟩ : ∃ rs ok, (turnM m fr st n).getD [] = rs ∧ (turnM m fr st n).isSome = ok := ⟨_, _, rfl, rfl⟩
  have hrl : rs.length ≤ 16 := by rw [← hq.1]; exact turn_len m fr st n
  have HC := Lib.hid hq
  clear hq
  obtain ⟨p0, p1, p2, p3, p4, p5, p6, p7, p8, p9, p10, p11⟩ := blk_m (hP.at (b := b0) (cs := mtc m) (ty := 35) (by simp))
  obtain ⟨c0, c1⟩ := blk_sta (hP.at (b := b0 + 1) (cs := #[.int .i64 fr.p, .int .i64 fr.q]) (ty := 37) (by simp))
  obtain ⟨d0, d1⟩ := blk_sta (hP.at (b := b0 + 1 + 1) (cs := #[.int .i64 st.p, .int .i64 st.q]) (ty := 37) (by simp))
  go_upto_region 5 with (first | (go_at_call 8; (with_reducible refine (turn_m m fr st n rs ok _ (hGO.below hP.B) (hGZ.below hP.B) (hGT.below hP.B) HC).mono ?_); rintro e w4 ⟨v7, rfl, O7, hb⟩))
  clear p0 p1 p2 p3 p4 p5 p6 p7 p8 p9 p10 p11 c0 c1 d0 d1
  have hP4 := hP.call hb
  clear hb hP
  obtain ⟨p0, p1, p2, p3, p4, p5, p6, p7, p8, p9, p10, p11⟩ := blk_m (hP4.at (b := b0) (cs := mtc m) (ty := 35) (by simp))
  obtain ⟨c0, c1⟩ := blk_sta (hP4.at (b := b0 + 1) (cs := #[.int .i64 fr.p, .int .i64 fr.q]) (ty := 37) (by simp))
  obtain ⟨d0, d1⟩ := blk_sta (hP4.at (b := b0 + 1 + 1) (cs := #[.int .i64 st.p, .int .i64 st.q]) (ty := 37) (by simp))
  go_upto_region 6 with (first | (go_at_call 5; (with_reducible refine (sturn_m m fr st n rs ok _ HC).mono ?_); rintro e w5 ⟨v9, rfl, O9, hb⟩))
  clear p0 p1 p2 p3 p4 p5 p6 p7 p8 p9 p10 p11 c0 c1 d0 d1
  have hP5 := hP4.call hb
  have O7 := O7.below hb
  clear hb hP4
  obtain ⟨A7, c7, rfl, -⟩ := O7.frs
  obtain ⟨A9, c9, rfl, -⟩ := O9.frs
  obtain ⟨n1, hn1⟩ : ∃ n, n = rs.length := ⟨_, rfl⟩
  rw [← hn1] at hrl O7 O9 ⊢
  have HN := Lib.hid hn1
  clear hn1
  have hF7 := O7.frsT
  have hF9 := O9.frsT
  have hB := hP5.B
  clear O7 O9
  cases hk : ok
  · go_wp2_with (first | (go_at_call 13; (with_reducible refine (sameFrs_refl A7 A9 n1 c7 c9 rs _ hF7 hF9).mono ?_); rintro e w6 ⟨rfl, hb⟩; have hF7 := hF7.below hb; have hF9 := hF9.below hb; have hB := bstep hB hb hB.size; clear hb))
    go_ret
    exact ⟨rfl, by exact below_⟩
  have ht : turnM m fr st n = some rs := by
    obtain ⟨h1, h2⟩ := HC.out
    rw [hk] at h2
    obtain ⟨x, hx⟩ := Option.isSome_iff_exists.1 h2
    rw [hx, Option.getD_some] at h1
    rw [hx, h1]
  obtain ⟨l1, l2, l3, l4⟩ := turn_law ht
  obtain rfl : n = (n1 : Int) := by rw [HN.out, l1]; omega
  clear ht l1 l2 hk HC
  by_cases h0 : n1 = 0
  · subst h0
    clear l3 l4
    go_wp2_with (first | (go_at_call 13; (with_reducible refine (sameFrs_refl A7 A9 0 c7 c9 rs _ hF7 hF9).mono ?_); rintro e w6 ⟨rfl, hb⟩; have hF7 := hF7.below hb; have hF9 := hF9.below hb; have hB := bstep hB hb hB.size; clear hb))
    go_ret
    exact ⟨rfl, by exact below_⟩
  obtain ⟨l5, l6, l7⟩ := l4 (by omega)
  obtain ⟨g, hg⟩ : ∃ g, g = rdG m fr := ⟨_, rfl⟩
  rw [← hg] at l6 l7
  have HRD : Hid (readM [fr] m = some [g]) := Lib.hid (by unfold readM; rw [hg]; simp [l3, l5])
  have HST : Hid ((turnM m fr ⟨1, 0⟩ (n1 : Int)).getD [] = List.replicate n1 g ∧ (turnM m fr ⟨1, 0⟩ (n1 : Int)).isSome = true) := Lib.hid (by rw [l7]; simp)
  have HG0 := Lib.hid l6
  clear l3 l4 l5 l6 l7 hg
  have hn0 : ¬ ((n1 : Int) = 0) := by omega
  have hnb : ((n1 : Int) == 0) = false := by simpa using hn0
  go_upto_region 10 with (first | (go_at_call 13; (with_reducible refine (sameFrs_refl A7 A9 n1 c7 c9 rs _ hF7 hF9).mono ?_); rintro e w6 ⟨rfl, hb⟩; have hF7 := hF7.below hb; have hF9 := hF9.below hb; have hB := bstep hB hb hB.size; have hP5 := hP5.call hb; clear hb))
  obtain ⟨p0, p1, p2, p3, p4, p5, p6, p7, p8, p9, p10, p11⟩ := blk_m (hP5.at (b := b0) (cs := mtc m) (ty := 35) (by simp))
  obtain ⟨c0, c1⟩ := blk_sta (hP5.at (b := b0 + 1) (cs := #[.int .i64 fr.p, .int .i64 fr.q]) (ty := 37) (by simp))
  obtain ⟨d0, d1⟩ := blk_sta (hP5.at (b := b0 + 1 + 1) (cs := #[.int .i64 st.p, .int .i64 st.q]) (ty := 37) (by simp))
  have hq0 := blk_lt (hP5.at (b := b0) (cs := mtc m) (ty := 35) (by simp))
  have hq1 := blk_lt (hP5.at (b := b0 + 1) (cs := #[.int .i64 fr.p, .int .i64 fr.q]) (ty := 37) (by simp))
  go_upto_region 11 with (first | (go_at_call 14; (with_reducible refine (readT (some ⟨w6.heap.size, 0, none⟩) fr m g _ (sas_oneT (heap_alloc_last w6 _)) (hGO.below (hB.alloc hB.size _)) (hGZ.below (hB.alloc hB.size _)) (hGT.below (hB.alloc hB.size _)) HRD).mono ?_); rintro e w7 ⟨v11, rfl, O11, hb⟩))
  clear p0 p1 p2 p3 p4 p5 p6 p7 p8 p9 p10 p11 c0 c1 d0 d1
  have hbx : Below w6.heap.size w6 w7 := ((Below.refl _ _).alloc (Nat.le_refl _) _).trans (hb.mono (by simp))
  have hP7 := hP5.call hbx
  have hF7 := hF7.below hbx
  clear hb hbx hP5 hB hF9
  obtain ⟨p0, p1, p2, p3, p4, p5, p6, p7, p8, p9, p10, p11⟩ := blk_m (hP7.at (b := b0) (cs := mtc m) (ty := 35) (by simp))
  obtain ⟨c0, c1⟩ := blk_sta (hP7.at (b := b0 + 1) (cs := #[.int .i64 fr.p, .int .i64 fr.q]) (ty := 37) (by simp))
  obtain ⟨d0, d1⟩ := blk_sta (hP7.at (b := b0 + 1 + 1) (cs := #[.int .i64 st.p, .int .i64 st.q]) (ty := 37) (by simp))
  go_upto_region 12 with (first | (go_at_call 8; (with_reducible refine (turn_m m fr ⟨1, 0⟩ (n1 : Int) (List.replicate n1 g) true _ (hGO.below hP7.B) (hGZ.below hP7.B) (hGT.below hP7.B) HST).mono ?_); rintro e w8 ⟨v13, rfl, O13, hb⟩))
  clear p0 p1 p2 p3 p4 p5 p6 p7 p8 p9 p10 p11 c0 c1 d0 d1
  have hB8 : Below w.heap.size w w8 := (hP7.call hb).B
  have O11 := O11.below hb
  have hF7 := hF7.below hb
  clear hb hP7
  obtain ⟨A11, c11, rfl, hF11⟩ := O11.frs
  obtain ⟨A13, c13, rfl, hF13⟩ := O13.frs
  rw [List.length_replicate] at hF13 ⊢
  rw [show [g].length = 1 from rfl] at hF11 ⊢
  clear O11 O13
  go_wp2
  go_loopw [15] (fun i wr => ∃ k : Nat, k ≤ n1 ∧ i = .int .i64 k ∧ Below w8.heap.size w8 wr) (fun i _ => n1 - (intOf i).toNat)
  case atStart => exact ⟨0, Nat.zero_le _, rfl, Below.refl _ _⟩
  case round =>
    obtain ⟨k, hk, rfl, hbr⟩ := hrel
    have hz := hbr.size
    obtain ⟨b2, o2, s2, rfl, hlt2, hs2, hc2⟩ := hF11.at hbr (show 0 < 1 by decide)
    obtain rfl : g = s2 := Option.some.inj hs2
    obtain ⟨d0, d1, d2⟩ := hc2
    simp only [Nat.zero_mul, Nat.add_zero] at d0 d1 d2
    clear hs2
    by_cases hkl : k < n1
    · obtain ⟨b1, o1, s1, rfl, hlt1, hs1, hc1⟩ := hF13.at hbr hkl
      obtain rfl : g = s1 := by rw [List.getElem?_replicate, if_pos hkl] at hs1; exact Option.some.inj hs1
      obtain ⟨e0, e1, e2⟩ := hc1
      clear hs1
      have hki : (k : Int) < (n1 : Int) := by omega
      have hk0 : (0 : Int) ≤ (k : Int) := by omega
      go_upto_region 17 with fail
      go_quiet (fail)
      go_wp2
      go_roundw
      case rel => exact ⟨k + 1, by omega, by go_num, below_drewN hbr _⟩
      case measure => first | (simp [intOf]; done) | (simp [intOf]; omega)
    · obtain rfl : k = n1 := by omega
      obtain ⟨b1, o1, s1, rfl, hlt1, hs1, hc1⟩ := hF7.at hbr (show 0 < k by omega)
      obtain rfl : g = s1 := by rw [HG0.out] at hs1; exact Option.some.inj hs1
      obtain ⟨e0, e1, e2⟩ := hc1
      simp only [Nat.zero_mul, Nat.add_zero] at e0 e1 e2
      clear hs1
      have hki : (0 : Int) < (k : Int) := by omega
      have hB9 : Below w.heap.size w wr := bstep hB8 hbr hB8.size
      go_upto_region 19 with fail
      go_quiet (fail)
      go_wp2
      go_ret
      exact ⟨rfl, by exact below_⟩
end
end Go.Proofs.YtodhbkinbcemnaaDoor
