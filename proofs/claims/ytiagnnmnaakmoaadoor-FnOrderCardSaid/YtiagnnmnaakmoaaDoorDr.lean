/-
  The walks of the drawing of arguments: each draw returns some value, moves the reader on, and makes new memory only.
-/
import Derived.Test.YtiagnnmnaakmoaaDoorSm
namespace Go.Proofs.YtiagnnmnaakmoaaDoor
set_option linter.unusedSimpArgs false
set_option linter.unusedVariables false
open Go.RowKit
/-- Block br is a reader of bytes that has been asked at most k times. -/
def RdIs (w : World) (br k : Nat) : Prop := ∃ (A : Option Addr) (len cap p : Nat), p ≤ k ∧ len ≤ 2000 ∧ w.heap[br]? = some (.cells #[.slice A len cap, .int .i64 p] 93 (0, 0)) ∧
  (0 < len → ∃ bb off : Nat, A = some ⟨bb, off, none⟩ ∧ bb < br ∧ ∀ i, i < len → ∃ x : Int, w.cell? ⟨bb, off + i, none⟩ = some (.int .u8 x) ∧ 0 ≤ x ∧ x ≤ 255)
theorem RdIs.lt {w : World} {br k : Nat} (h : RdIs w br k) : br < w.heap.size := by
  obtain ⟨_, _, _, _, _, _, h, _⟩ := h
  rcases Nat.lt_or_ge br w.heap.size with hlt | hge
  · exact hlt
  · rw [Array.getElem?_eq_none hge] at h; cases h
theorem RdIs.below {w w' : World} {br k B : Nat} (h : RdIs w br k) (hb : Below B w w') (hlt : br < B) : RdIs w' br k := by
  obtain ⟨A, len, cap, p, h1, h2, h3, h4⟩ := h
  refine ⟨A, len, cap, p, h1, h2, (hb.block br hlt).trans h3, fun h0 => ?_⟩
  obtain ⟨bb, off, e, hbb, hc⟩ := h4 h0
  refine ⟨bb, off, e, hbb, fun i hi => ?_⟩
  obtain ⟨x, hx, h0, h1⟩ := hc i hi
  exact ⟨x, (hb.cell (p := ⟨bb, off + i, none⟩) (show bb < B by omega)).trans hx, h0, h1⟩
theorem RdIs.mono {w : World} {br k k' : Nat} (h : RdIs w br k) (hk : k ≤ k') : RdIs w br k' := by
  obtain ⟨A, len, cap, p, h1, h2, h3, h4⟩ := h
  exact ⟨A, len, cap, p, Nat.le_trans h1 hk, h2, h3, h4⟩
theorem RdIs.drew {w : World} {br k : Nat} (h : RdIs w br k) : RdIs w.drew br k := h
theorem RdIs.alloc {w : World} {br k : Nat} (h : RdIs w br k) (o : Obj) : RdIs (w.alloc o) br k := h.below ((Below.refl _ _).alloc (Nat.le_refl _) o) h.lt
theorem RdIs.far {w : World} {br k : Nat} (h : RdIs w br k) {p : Addr} (hp : br < p.block) (u : Value) : RdIs (w.setCell p u) br k := h.below ((Below.refl p.block w).setCell (Nat.le_refl _) u) hp
theorem RdIs.drewN {w : World} {br k : Nat} (h : RdIs w br k) (n : Nat) : RdIs (w.drewN n) br k := h
def RdEx (m : Nat) (w : World) (br : Nat) : Prop := ∃ k, RdIs w br k ∧ k + m ≤ 100000
section
variable {w w' : World} {br k m : Nat}
theorem RdEx.of (h : RdIs w br k) (hk : k + m ≤ 100000) : RdEx m w br := ⟨k, h, hk⟩
theorem RdEx.lt (h : RdEx m w br) : br < w.heap.size := h.choose_spec.1.lt
theorem RdEx.drew (h : RdEx m w br) : RdEx m w.drew br := h
theorem RdEx.drewN (h : RdEx m w br) (n : Nat) : RdEx m (w.drewN n) br := h
theorem RdEx.alloc (h : RdEx m w br) (o : Obj) : RdEx m (w.alloc o) br := ⟨_, h.choose_spec.1.alloc o, h.choose_spec.2⟩
theorem RdEx.far (h : RdEx m w br) {p : Addr} (hp : br < p.block) (u : Value) : RdEx m (w.setCell p u) br := ⟨_, h.choose_spec.1.far hp u, h.choose_spec.2⟩
end
/-- Some asked of the reader, at most m times; but for the reader no old memory has turned. -/
def Drw (m br : Nat) (w w' : World) : Prop := (∀ k, RdIs w br k → RdIs w' br (k + m)) ∧ BelX w.heap.size br w w'
theorem RdEx.min {m : Nat} {w : World} {br : Nat} (h : RdEx m w br) : ∃ k, RdIs w br k ∧ (∀ k', RdIs w br k' → k ≤ k') ∧ k + m ≤ 100000 := by
  obtain ⟨k, ⟨A, len, cap, p, h1, h2, h3, h4⟩, hk⟩ := h
  refine ⟨p, ⟨A, len, cap, p, Nat.le_refl _, h2, h3, h4⟩, fun k' hk' => ?_, by omega⟩
  obtain ⟨A', len', cap', p', h1', h2', h3', h4'⟩ := hk'
  rw [h3] at h3'
  simp at h3'
  omega
theorem drw_mk {m k br : Nat} {w W : World} (hmin : ∀ k', RdIs w br k' → k ≤ k') (h : RdIs W br (k + m)) (hX : BelX w.heap.size br w W) : Drw m br w W :=
  ⟨fun k' hk' => h.mono (by have := hmin k' hk'; omega), hX⟩
/-- A number that was picked. -/
def Pick (n : Int) (br : Nat) (w : World) (e : Ending) (w' : World) : Prop := ∃ x : Int, e = .returned (.int .i64 x) ∧ Drw 1 br w w' ∧ (0 ≤ x ∧ x ≤ n - 1)
/-- A fraction that was drawn: any. -/
def DrF (br : Nat) (w : World) (e : Ending) (w' : World) : Prop := ∃ x : Fr, e = .returned (frv x) ∧ Drw 8 br w w' ∧ True
theorem RdIs.uniq {w w' : World} {br k k' p : Nat} {A : Option Addr} {len cap : Nat} (h : RdIs w br k) (h3 : w.heap[br]? = some (.cells #[.slice A len cap, .int .i64 p] 93 (0, 0))) : p ≤ k := by
  obtain ⟨A', len', cap', p', h1, h2, h, h4⟩ := h
  rw [h] at h3
  simp at h3
  omega
theorem xor64_nat (a b : Nat) (ha : a < 9223372036854775808) (hb : b < 9223372036854775808) : bits .xor .i64 (a : Int) (b : Int) = ((a ^^^ b : Nat) : Int) := by
  have hx : a ^^^ b < 2 ^ 63 := Nat.xor_lt_two_pow (by omega) (by omega)
  have h1 : (BitVec.ofInt 64 (a : Int)).toNat = a := by
    rw [BitVec.ofInt_natCast, BitVec.toNat_ofNat]; exact Nat.mod_eq_of_lt (by omega)
  have h2 : (BitVec.ofInt 64 (b : Int)).toNat = b := by
    rw [BitVec.ofInt_natCast, BitVec.toNat_ofNat]; exact Nat.mod_eq_of_lt (by omega)
  show IntKind.i64.wrap ((BitVec.ofInt 64 (a : Int) ^^^ BitVec.ofInt 64 (b : Int)).toNat : Int) = _
  rw [BitVec.toNat_xor, h1, h2, IntKind.wrap_i64]
  omega
theorem xor64_nn (a b : Int) (ha0 : 0 ≤ a) (ha : a ≤ 1000000000000) (hb0 : 0 ≤ b) (hb : b ≤ 1000000000000) : 0 ≤ bits .xor .i64 a b := by
  obtain ⟨x, rfl⟩ := Int.eq_ofNat_of_zero_le ha0
  obtain ⟨y, rfl⟩ := Int.eq_ofNat_of_zero_le hb0
  rw [xor64_nat x y (by omega) (by omega)]
  omega
theorem tmod_bd (x n : Int) (hx : 0 ≤ x) (hn : 1 ≤ n) : 0 ≤ x.tmod n ∧ x.tmod n ≤ n - 1 := by
  rw [Int.tmod_eq_emod_of_nonneg hx]
  have := Int.emod_nonneg x (show n ≠ 0 by omega)
  have := Int.emod_lt_of_pos x (show 0 < n by omega)
  omega
theorem emod_bd (x n : Int) (hn : 1 ≤ n) : 0 ≤ x % n ∧ x % n ≤ n - 1 := by
  have := Int.emod_nonneg x (show n ≠ 0 by omega)
  have := Int.emod_lt_of_pos x (show 0 < n by omega)
  omega
theorem pick_at {n x : Int} {br : Nat} {w w' : World} {A : Option Addr} {len cap p : Nat} (hx : 0 ≤ x ∧ x ≤ n - 1) (h2 : len ≤ 2000) (h3 : w.heap[br]? = some (.cells #[.slice A len cap, .int .i64 p] 93 (0, 0)))
    (h4 : 0 < len → ∃ bb off : Nat, A = some ⟨bb, off, none⟩ ∧ bb < br ∧ ∀ i, i < len → ∃ x : Int, w.cell? ⟨bb, off + i, none⟩ = some (.int .u8 x) ∧ 0 ≤ x ∧ x ≤ 255) (hw : ∃ m, w' = (w.setCell ⟨br, 1, none⟩ (.int .i64 ((p : Int) + 1))).drewN m) : Pick n br w (.returned (.int .i64 x)) w' := by
  obtain ⟨m, rfl⟩ := hw
  refine ⟨x, rfl, ⟨fun k hk => ⟨A, len, cap, p + 1, by have := hk.uniq (w' := w) (k' := 0) h3; omega, h2, ?_, fun h0 => ?_⟩, BelX.drewN (BelX.setSum (BelX.refl _ _ _) _) m⟩, hx⟩
  · show (w.setCell ⟨br, 1, none⟩ (.int .i64 ((p : Int) + 1))).heap[br]? = _
    simp [World.setCell, Array.getElem?_modify, h3]
  · obtain ⟨bb, off, e, hbb, hc⟩ := h4 h0
    refine ⟨bb, off, e, hbb, fun i hi => ?_⟩
    obtain ⟨y, hy, k0, k1⟩ := hc i hi
    refine ⟨y, ?_, k0, k1⟩
    rw [World.cell?_drewN, World.cell?_setCell_other _ _ _ _ (by intro e; injection e with e1; omega)]
    exact hy
set_option maxRecDepth 100000 in
set_option maxHeartbeats 1000000 in
theorem pick_any (n : Int) (br : Nat) (w : World) (hr : RdEx 1 w br) (hn : 1 ≤ n) (hn' : n ≤ 1000000) :
    Calls Tryd.prog 50 #[.pointer (some ⟨br, 0, none⟩), .int .i64 n] w (Pick n br w) := by
  obtain ⟨k, hr, hk⟩ := hr
  have hlt := hr.lt
  obtain ⟨A, len, cap, p, h1, h2, h3, h4⟩ := hr
  have c0 : w.cell? ⟨br, 0, none⟩ = some (.slice A len cap) := by simp [World.cell?, h3]
  have c1 : w.cell? ⟨br, 1, none⟩ = some (.int .i64 p) := by simp [World.cell?, h3]
  have f1 : w.frozen? ⟨br, 1, none⟩ = false := by simp [World.frozen?, h3]
  have hp0 : (0 : Int) ≤ (p : Int) := by omega
  have hp1 : (p : Int) ≤ 1000000 := by omega
  have H1 := Lib.hid h1; have H3 := Lib.hid h3; have H4 := Lib.hid h4
  clear h1 h3 h4
  rcases Nat.eq_zero_or_pos len with hl | hl
  · subst hl
    go_enter Tryd.func50, Tryd.ntmps50
    go_wp2
    go_ret
    exact pick_at (by omega) h2 H3.out H4.out ⟨0, rfl⟩
  · obtain ⟨bb, off, rfl, hbb, hc⟩ := H4.out hl
    have hl1 : (1 : Int) ≤ (len : Int) := by omega
    have hl2 : ((len : Int) == 0) = false := by simp; omega
    have hnn : decide (n < 1) = false := by simp; omega
    have HC := Lib.hid hc
    clear hc
    rcases Nat.lt_or_ge p len with hpl | hpl
    · obtain ⟨x, hx, x0, x1⟩ := HC.out p hpl
      have hne : bb ≠ br := by omega
      go_enter Tryd.func50, Tryd.ntmps50
      go_wp2
      go_ret
      exact pick_at (emod_bd x n hn) h2 H3.out H4.out ⟨0, rfl⟩
    · have hm1 : p % len < len := Nat.mod_lt _ hl
      have hm2 : (p * 7 + 3) % len < len := Nat.mod_lt _ hl
      obtain ⟨x, hx, x0, x1⟩ := HC.out _ hm1
      obtain ⟨y, hy, y0, y1⟩ := HC.out _ hm2
      have hne : bb ≠ br := by omega
      have q1 : (0 : Int) ≤ (p : Int) % (len : Int) := Int.emod_nonneg _ (by omega)
      have q2 : (p : Int) % (len : Int) < (len : Int) := Int.emod_lt_of_pos _ (by omega)
      have q3 : (0 : Int) ≤ ((p : Int) * 7 + 3) % (len : Int) := Int.emod_nonneg _ (by omega)
      have q4 : ((p : Int) * 7 + 3) % (len : Int) < (len : Int) := Int.emod_lt_of_pos _ (by omega)
      have q5 : (0 : Int) ≤ (p : Int) / (len : Int) := Int.ediv_nonneg (by omega) (by omega)
      have q6 : (p : Int) / (len : Int) ≤ (p : Int) := Int.ediv_le_self _ (by omega)
      clear hm1 hm2
      go_enter Tryd.func50, Tryd.ntmps50
      go_wp2
      go_quiet (fail)
      go_wp2
      go_ret
      have d1 : 0 ≤ (x * 131 + y * 1117 + ↑p * 29 + ↑p / ↑len * 53) := by omega
      have d2 : (x * 131 + y * 1117 + ↑p * 29 + ↑p / ↑len * 53) ≤ 1000000000000 := by omega
      exact pick_at (tmod_bd _ n (xor64_nn _ _ d1 d2 (by omega) (by omega)) hn) h2 H3.out H4.out ⟨_, rfl⟩
set_option maxRecDepth 100000 in
set_option maxHeartbeats 1000000 in
theorem open_any (A : Option Addr) (len cap : Nat) (w : World) (hA : len ≤ cap) (hcap : cap ≤ 9223372036854775807)
    (hc : 0 < len → ∃ bb off : Nat, A = some ⟨bb, off, none⟩ ∧ bb < w.heap.size ∧ ∀ i, i < len → ∃ x : Int, w.cell? ⟨bb, off + i, none⟩ = some (.int .u8 x) ∧ 0 ≤ x ∧ x ≤ 255) :
    Calls Tryd.prog 38 #[.slice A len cap] w fun e w' => e = .returned (.pointer (some ⟨w.heap.size, 0, none⟩)) ∧ RdIs w' w.heap.size 0 ∧ Below w.heap.size w w' := by
  have H := Lib.hid hc
  clear hc
  have key : ∀ (l c : Nat), l ≤ 2000 → l ≤ len → RdIs (w.alloc (.cells #[.slice A l c, .int .i64 0] 93)) w.heap.size 0 := by
    intro l c hl hll
    refine ⟨A, l, c, 0, Nat.le_refl _, hl, by show (w.heap.push _)[w.heap.size]? = _; simp, fun h0 => ?_⟩
    obtain ⟨bb, off, e, hbb, hc⟩ := H.out (by omega)
    refine ⟨bb, off, e, hbb, fun i hi => ?_⟩
    obtain ⟨x, hx, k0, k1⟩ := hc i (by omega)
    exact ⟨x, by rw [World.cell?_alloc_lt _ _ _ hbb]; exact hx, k0, k1⟩
  have HK := Lib.hid key
  clear key
  by_cases hl : len ≤ 2000
  · go_enter Tryd.func38, Tryd.ntmps38
    go_wp2
    go_ret
    exact ⟨rfl, HK.out len cap hl (Nat.le_refl _), (Below.refl _ _).alloc (Nat.le_refl _) _⟩
  · have h1 : 2000 < len := by omega
    have h2 : (2000 : Int) ≤ (cap : Int) := by omega
    obtain ⟨bb, off, rfl, _, _⟩ := H.out (by omega)
    go_enter Tryd.func38, Tryd.ntmps38
    go_wp2
    go_ret
    exact ⟨rfl, HK.out 2000 cap (Nat.le_refl _) (by omega), (Below.refl _ _).alloc (Nat.le_refl _) _⟩
set_option maxRecDepth 100000 in
set_option maxHeartbeats 1000000 in
theorem dfrac_any (br : Nat) (w : World) (hr : RdEx 8 w br) :
    Calls Tryd.prog 75 #[.pointer (some ⟨br, 0, none⟩)] w (DrF br w) := by
  obtain ⟨k, hr, hmin, hk⟩ := hr.min
  have hlt := hr.lt
  go_enter Tryd.func75, Tryd.ntmps75
  go_wp2_with (first | (go_at_call 50; (with_reducible refine (pick_any 40 br _ (by exact rd_) (by omega) (by omega)).mono ?_); rintro e w1 ⟨x40, rfl, ⟨hu, hx⟩, hbd⟩; have hr1 := hu _ (by exact rd_); clear hu; obtain ⟨hc, hf⟩ := bfxO hx (w.heap.size) (w.heap.size + 1) side_ side_; have hs2 := hx.size; (try simp only [World.size_alloc, World.size_setCell, World.size_drew, World.heap_drewN] at hs2); have hl : w.heap.size ≤ w1.heap.size ∧ w.heap.size < w1.heap.size := ⟨by omega, by omega⟩; have hX : BelX w.heap.size br w w1 := BelX.step (by exact belx_) hx side_; clear hs2 hx) | (go_at_call 50; (with_reducible refine (pick_any 13 br _ (by exact rd_) (by omega) (by omega)).mono ?_); rintro e w1 ⟨x13, rfl, ⟨hu, hx⟩, hbd⟩; have hr1 := hu _ (by exact rd_); clear hu; obtain ⟨hc, hf⟩ := bfxO hx (w.heap.size) (w.heap.size + 1) side_ side_; have hs2 := hx.size; (try simp only [World.size_alloc, World.size_setCell, World.size_drew, World.heap_drewN] at hs2); have hl : w.heap.size ≤ w1.heap.size ∧ w.heap.size < w1.heap.size := ⟨by omega, by omega⟩; have hX : BelX w.heap.size br w w1 := BelX.step (by exact belx_) hx side_; clear hs2 hx) | (go_at_call 50; (with_reducible refine (pick_any 9 br _ (by exact rd_) (by omega) (by omega)).mono ?_); rintro e w1 ⟨x9, rfl, ⟨hu, hx⟩, hbd⟩; have hr1 := hu _ (by exact rd_); clear hu; obtain ⟨hc, hf⟩ := bfxO hx (w.heap.size) (w.heap.size + 1) side_ side_; have hs2 := hx.size; (try simp only [World.size_alloc, World.size_setCell, World.size_drew, World.heap_drewN] at hs2); have hl : w.heap.size ≤ w1.heap.size ∧ w.heap.size < w1.heap.size := ⟨by omega, by omega⟩; have hX : BelX w.heap.size br w w1 := BelX.step (by exact belx_) hx side_; clear hs2 hx) | (go_at_call 50; (with_reducible refine (pick_any 2 br _ (by exact rd_) (by omega) (by omega)).mono ?_); rintro e w1 ⟨x2, rfl, ⟨hu, hx⟩, hbd⟩; have hr1 := hu _ (by exact rd_); clear hu; obtain ⟨hc, hf⟩ := bfxO hx (w.heap.size) (w.heap.size + 1) side_ side_; have hs2 := hx.size; (try simp only [World.size_alloc, World.size_setCell, World.size_drew, World.heap_drewN] at hs2); have hl : w.heap.size ≤ w1.heap.size ∧ w.heap.size < w1.heap.size := ⟨by omega, by omega⟩; have hX : BelX w.heap.size br w w1 := BelX.step (by exact belx_) hx side_; clear hs2 hx; have hm := mulbd (x9 - 4) x2 (by omega) (by omega) (by omega) (by omega)) | (go_at_call 50; (with_reducible refine (pick_any 5 br _ (by exact rd_) (by omega) (by omega)).mono ?_); rintro e w1 ⟨x5, rfl, ⟨hu, hx⟩, hbd⟩; have hr1 := hu _ (by exact rd_); clear hu; obtain ⟨hc, hf⟩ := bfxO hx (w.heap.size) (w.heap.size + 1) side_ side_; have hs2 := hx.size; (try simp only [World.size_alloc, World.size_setCell, World.size_drew, World.heap_drewN] at hs2); have hl : w.heap.size ≤ w1.heap.size ∧ w.heap.size < w1.heap.size := ⟨by omega, by omega⟩; have hX : BelX w.heap.size br w w1 := BelX.step (by exact belx_) hx side_; clear hs2 hx) | (go_at_call 77; (with_reducible refine (slow_any _ _ _ _ (by omega) (by omega) (by omega) (by omega) (by omega) (by omega)).mono ?_); rintro e w1 ⟨rfl, hb⟩; obtain ⟨hc, hf⟩ := bf hb (w.heap.size + 1) side_; have hs := hb.size; (try simp only [World.size_alloc, World.size_setCell, World.size_drew, World.heap_drewN] at hs); have hl : w.heap.size ≤ w1.heap.size ∧ w.heap.size < w1.heap.size := ⟨by omega, by omega⟩; obtain ⟨B, hBe, hBl, hc2, hf2⟩ := bfA hb; (try simp only [World.size_alloc, World.size_setCell, World.size_drew, World.heap_drewN] at hBe); have hX : BelX w.heap.size (br) w w1 := BelX.stepB (by exact belx_) hb side_; have hr1 : RdIs w1 (br) _ := RdIs.below (by exact rd_) hb side_; clear hs hb))
  · exact bodyPost_ret (v := frv ⟨2, 4, 2⟩) (by simp [results, Tryd.results75, go_sem, *]) rfl ⟨_, rfl, drw_mk hmin (by exact rd_) (by exact belx_), trivial⟩
  · exact bodyPost_ret (v := frv ⟨1, 0, 0⟩) (by simp [results, Tryd.results75, go_sem, *]) rfl ⟨_, rfl, drw_mk hmin (by exact rd_) (by exact belx_), trivial⟩
  · exact bodyPost_ret (v := frv ⟨2000000000, 1, 7⟩) (by simp [results, Tryd.results75, go_sem, *]) rfl ⟨_, rfl, drw_mk hmin (by exact rd_) (by exact belx_), trivial⟩
  · exact bodyPost_ret (v := frv ⟨0, 0, 1⟩) (by simp [results, Tryd.results75, go_sem, *]) rfl ⟨_, rfl, drw_mk hmin (by exact rd_) (by exact belx_), trivial⟩
  · exact bodyPost_ret (v := frv ((lowI (x13 - 6) ((x9 - 4) * x2) (1 + x5)).getD ⟨0, 0, 0⟩)) (by simp [results, Tryd.results75, go_sem, *]) rfl ⟨_, rfl, drw_mk hmin (by exact rd_) (by exact belx_), trivial⟩
end Go.Proofs.YtiagnnmnaakmoaaDoor
