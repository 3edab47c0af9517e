/-
  Texts of this claim, joined: Tg; Th; Tk; Tn. Nothing is claimed here; the other texts of this claim use it.
-/
import Derived.Test.YtodhbkinbcemnaaGreatDoorPj
import Derived.Test.YtodhbkinbcemnaaGreatDoorMv
import Derived.Test.YtodhbkinbcemnaaGreatDoorPe
import Derived.Test.YtodhbkinbcemnaaGreatDoorPc
import Derived.Deep.CutRange
namespace Go.Proofs.YtodhbkinbcemnaaGreatDoor
set_option linter.unusedSimpArgs false
set_option linter.unusedVariables false
section
open Go.RowKit
attribute [local go_sem ↓] Go.wp_at_zero Go.wp_at_succ
set_option maxHeartbeats 1000000 in
theorem s_real (a : Fr) (bs : Nat) (bad : Bool) (w : World) (hs : SumIs w bs bad) :
    Calls Tryz.prog 47 #[.pointer (some ⟨bs, 0, none⟩), frv a] w fun e w' => e = .returned (frv (vN (realI a))) ∧ SumIs w' bs (bad || (realI a).isNone) ∧ BelX w.heap.size bs w w' := by
  have hlt := hs.lt
  have hcs := hs.cell
  have hfs := hs.frozen
  have hne : w.heap.size ≠ bs ∧ w.heap.size + 1 ≠ bs ∧ w.heap.size + 1 + 1 ≠ bs := ⟨by omega, by omega, by omega⟩
  cases ha : fvalid a
  · have e1 : realI a = none := by simp [realI, ha]
    rw [e1]
    go_enter Tryz.func47, Tryz.ntmps47
    go_wp2_with (first | (go_at_call 78; (with_reducible refine (fvalid_f a _ (by assumption)).mono ?_); rintro e w1 ⟨rfl, hb⟩; obtain ⟨hc, hf⟩ := bf hb (w.heap.size + 1 + 1) side_; have hs := hb.size; (try simp only [World.size_alloc, World.size_setCell, World.size_drew, World.heap_drewN] at hs); have hl : w.heap.size ≤ w1.heap.size ∧ w.heap.size < w1.heap.size ∧ w.heap.size + 1 < w1.heap.size := ⟨by omega, by omega, by omega⟩; have hB : Below w.heap.size w w1 := bstep (by exact below_) hb side_; have hs1 : SumIs w1 (bs) _ := SumIs.below (by exact sum_) hb side_; have hcs1 := hs1.cell; have hfs1 := hs1.frozen; clear hs hb))
    exact bodyPost_ret (v := frv ⟨0, 0, 0⟩) (by simp [results, Tryz.results47, go_sem, *]) rfl ⟨rfl, by simp only [Option.isNone_none, Bool.or_true]; exact sum_, by exact belx_⟩
  · have e1 : realI a = lowI a.re 0 a.den := by simp [realI, ha]
    rw [e1]
    have hbd := fvalid_bd a ha
    have b1 : -9000000000000000000 ≤ a.re ∧ a.re ≤ 9000000000000000000 := by omega
    have b2 : 1 ≤ a.den ∧ a.den ≤ 9000000000000000000 := by omega
    go_enter Tryz.func47, Tryz.ntmps47
    go_wp2_with (first | (go_at_call 78; (with_reducible refine (fvalid_t a _ (by assumption)).mono ?_); rintro e w1 ⟨rfl, hb⟩; obtain ⟨hc, hf⟩ := bf hb (w.heap.size + 1 + 1) side_; have hs := hb.size; (try simp only [World.size_alloc, World.size_setCell, World.size_drew, World.heap_drewN] at hs); have hl : w.heap.size ≤ w1.heap.size ∧ w.heap.size < w1.heap.size ∧ w.heap.size + 1 < w1.heap.size := ⟨by omega, by omega, by omega⟩; have hB : Below w.heap.size w w1 := bstep (by exact below_) hb side_; have hs1 : SumIs w1 (bs) _ := SumIs.below (by exact sum_) hb side_; have hcs1 := hs1.cell; have hfs1 := hs1.frozen; clear hs hb) | (go_at_call 75; (with_reducible refine (lowest_any a.re 0 a.den _ b1.1 b1.2 (by omega) (by omega) b2.1 b2.2).mono ?_); rintro e w1 ⟨rfl, hb⟩; obtain ⟨hc, hf⟩ := bf hb (w.heap.size + 1 + 1) side_; have hs := hb.size; (try simp only [World.size_alloc, World.size_setCell, World.size_drew, World.heap_drewN] at hs); have hl : w.heap.size ≤ w1.heap.size ∧ w.heap.size < w1.heap.size ∧ w.heap.size + 1 < w1.heap.size := ⟨by omega, by omega, by omega⟩; have hB : Below w.heap.size w w1 := bstep (by exact below_) hb side_; have hs1 : SumIs w1 (bs) _ := SumIs.below (by exact sum_) hb side_; have hcs1 := hs1.cell; have hfs1 := hs1.frozen; clear hs hb) | (go_at_call 76; (with_reducible refine (x_keep (lowI a.re 0 a.den) bs _ (by exact sum_)).mono ?_); rintro e w1 ⟨rfl, hu, hx⟩; have hs1 := hu _ (by exact sum_); clear hu; obtain ⟨hc, hf⟩ := bfxO hx (w.heap.size) (w.heap.size + 1 + 1) side_ side_; have hs2 := hx.size; (try simp only [World.size_alloc, World.size_setCell, World.size_drew, World.heap_drewN] at hs2); have hl : w.heap.size ≤ w1.heap.size ∧ w.heap.size < w1.heap.size ∧ w.heap.size + 1 < w1.heap.size := ⟨by omega, by omega, by omega⟩; have hcs1 := hs1.cell; have hfs1 := hs1.frozen; have hX : BelX w.heap.size bs w w1 := BelX.step (by exact belx_) hx side_; clear hs2 hx))
    exact bodyPost_ret (v := frv (vN (lowI a.re 0 a.den))) (by simp [results, Tryz.results47, go_sem, vN, zK, *]) rfl ⟨rfl, by exact sum_, by exact belx_⟩
theorem x_real (a : Fr) (bs : Nat) (w : World) (hs : SumEx w bs) :
    Calls Tryz.prog 47 #[.pointer (some ⟨bs, 0, none⟩), frv a] w fun e w' => e = .returned (frv (vN (realI a))) ∧ (∀ c, SumIs w bs c → SumIs w' bs (c || (realI a).isNone)) ∧ BelX w.heap.size bs w w' := by
  obtain ⟨b0, hb⟩ := hs
  exact (s_real a bs b0 w hb).mono fun e w' ⟨h1, h2, h3⟩ => ⟨h1, fun c hc => by rw [← hb.uniq hc]; exact h2, h3⟩
set_option maxHeartbeats 1000000 in
theorem s_imag (a : Fr) (bs : Nat) (bad : Bool) (w : World) (hs : SumIs w bs bad) :
    Calls Tryz.prog 48 #[.pointer (some ⟨bs, 0, none⟩), frv a] w fun e w' => e = .returned (frv (vN (imagI a))) ∧ SumIs w' bs (bad || (imagI a).isNone) ∧ BelX w.heap.size bs w w' := by
  have hlt := hs.lt
  have hcs := hs.cell
  have hfs := hs.frozen
  have hne : w.heap.size ≠ bs ∧ w.heap.size + 1 ≠ bs ∧ w.heap.size + 1 + 1 ≠ bs := ⟨by omega, by omega, by omega⟩
  cases ha : fvalid a
  · have e1 : imagI a = none := by simp [imagI, ha]
    rw [e1]
    go_enter Tryz.func48, Tryz.ntmps48
    go_wp2_with (first | (go_at_call 78; (with_reducible refine (fvalid_f a _ (by assumption)).mono ?_); rintro e w1 ⟨rfl, hb⟩; obtain ⟨hc, hf⟩ := bf hb (w.heap.size + 1 + 1) side_; have hs := hb.size; (try simp only [World.size_alloc, World.size_setCell, World.size_drew, World.heap_drewN] at hs); have hl : w.heap.size ≤ w1.heap.size ∧ w.heap.size < w1.heap.size ∧ w.heap.size + 1 < w1.heap.size := ⟨by omega, by omega, by omega⟩; have hB : Below w.heap.size w w1 := bstep (by exact below_) hb side_; have hs1 : SumIs w1 (bs) _ := SumIs.below (by exact sum_) hb side_; have hcs1 := hs1.cell; have hfs1 := hs1.frozen; clear hs hb))
    exact bodyPost_ret (v := frv ⟨0, 0, 0⟩) (by simp [results, Tryz.results48, go_sem, *]) rfl ⟨rfl, by simp only [Option.isNone_none, Bool.or_true]; exact sum_, by exact belx_⟩
  · have e1 : imagI a = lowI a.im 0 a.den := by simp [imagI, ha]
    rw [e1]
    have hbd := fvalid_bd a ha
    have b1 : -9000000000000000000 ≤ a.im ∧ a.im ≤ 9000000000000000000 := by omega
    have b2 : 1 ≤ a.den ∧ a.den ≤ 9000000000000000000 := by omega
    go_enter Tryz.func48, Tryz.ntmps48
    go_wp2_with (first | (go_at_call 78; (with_reducible refine (fvalid_t a _ (by assumption)).mono ?_); rintro e w1 ⟨rfl, hb⟩; obtain ⟨hc, hf⟩ := bf hb (w.heap.size + 1 + 1) side_; have hs := hb.size; (try simp only [World.size_alloc, World.size_setCell, World.size_drew, World.heap_drewN] at hs); have hl : w.heap.size ≤ w1.heap.size ∧ w.heap.size < w1.heap.size ∧ w.heap.size + 1 < w1.heap.size := ⟨by omega, by omega, by omega⟩; have hB : Below w.heap.size w w1 := bstep (by exact below_) hb side_; have hs1 : SumIs w1 (bs) _ := SumIs.below (by exact sum_) hb side_; have hcs1 := hs1.cell; have hfs1 := hs1.frozen; clear hs hb) | (go_at_call 75; (with_reducible refine (lowest_any a.im 0 a.den _ b1.1 b1.2 (by omega) (by omega) b2.1 b2.2).mono ?_); rintro e w1 ⟨rfl, hb⟩; obtain ⟨hc, hf⟩ := bf hb (w.heap.size + 1 + 1) side_; have hs := hb.size; (try simp only [World.size_alloc, World.size_setCell, World.size_drew, World.heap_drewN] at hs); have hl : w.heap.size ≤ w1.heap.size ∧ w.heap.size < w1.heap.size ∧ w.heap.size + 1 < w1.heap.size := ⟨by omega, by omega, by omega⟩; have hB : Below w.heap.size w w1 := bstep (by exact below_) hb side_; have hs1 : SumIs w1 (bs) _ := SumIs.below (by exact sum_) hb side_; have hcs1 := hs1.cell; have hfs1 := hs1.frozen; clear hs hb) | (go_at_call 76; (with_reducible refine (x_keep (lowI a.im 0 a.den) bs _ (by exact sum_)).mono ?_); rintro e w1 ⟨rfl, hu, hx⟩; have hs1 := hu _ (by exact sum_); clear hu; obtain ⟨hc, hf⟩ := bfxO hx (w.heap.size) (w.heap.size + 1 + 1) side_ side_; have hs2 := hx.size; (try simp only [World.size_alloc, World.size_setCell, World.size_drew, World.heap_drewN] at hs2); have hl : w.heap.size ≤ w1.heap.size ∧ w.heap.size < w1.heap.size ∧ w.heap.size + 1 < w1.heap.size := ⟨by omega, by omega, by omega⟩; have hcs1 := hs1.cell; have hfs1 := hs1.frozen; have hX : BelX w.heap.size bs w w1 := BelX.step (by exact belx_) hx side_; clear hs2 hx))
    exact bodyPost_ret (v := frv (vN (lowI a.im 0 a.den))) (by simp [results, Tryz.results48, go_sem, vN, zK, *]) rfl ⟨rfl, by exact sum_, by exact belx_⟩
theorem x_imag (a : Fr) (bs : Nat) (w : World) (hs : SumEx w bs) :
    Calls Tryz.prog 48 #[.pointer (some ⟨bs, 0, none⟩), frv a] w fun e w' => e = .returned (frv (vN (imagI a))) ∧ (∀ c, SumIs w bs c → SumIs w' bs (c || (imagI a).isNone)) ∧ BelX w.heap.size bs w w' := by
  obtain ⟨b0, hb⟩ := hs
  exact (s_imag a bs b0 w hb).mono fun e w' ⟨h1, h2, h3⟩ => ⟨h1, fun c hc => by rw [← hb.uniq hc]; exact h2, h3⟩
/-- What the closure over a pair keeps. -/
structure PS (w0 : World) (bp bs : Nat) (u v : Fr) (W : World) : Prop where
  a : FrG W w0.heap.size u
  b : FrG W (w0.heap.size + 1) v
  r : ∃ z, FrG W (w0.heap.size + 1 + 1) z
  p : W.cell? ⟨bp, 0, none⟩ = some (.pointer (some ⟨bs, 0, none⟩))
  X : BelX w0.heap.size bs w0 W
theorem PS.drew {w0 W : World} {bp bs : Nat} {u v : Fr} (h : PS w0 bp bs u v W) : PS w0 bp bs u v W.drew := ⟨h.a.drew, h.b.drew, h.r.elim fun z h => ⟨z, h.drew⟩, h.p, h.X.drew⟩
theorem PS.step {w0 W w1 : World} {bp bs : Nat} {u v : Fr} (h : PS w0 bp bs u v W) (hx : BelX W.heap.size bs W w1) (hp : bs < bp) (hpw : bp < w0.heap.size) : PS w0 bp bs u v w1 := by
  have hs := h.X.size
  obtain ⟨z, hz⟩ := h.r
  have hr := hz.lt
  exact ⟨h.a.step hx h.a.lt (by omega), h.b.step hx h.b.lt (by omega), ⟨z, hz.step hx hz.lt (by omega)⟩, (World.cell?_of_block (w := W) (a := ⟨bp, 0, none⟩) (hx.block bp (by omega) (by omega))).trans h.p, h.X.step hx hs⟩
theorem PS.cells {w0 W : World} {bp bs : Nat} {u v : Fr} (h : PS w0 bp bs u v W) : W.cell? ⟨w0.heap.size, 0, none⟩ = some (.int .i64 u.re) ∧ W.cell? ⟨w0.heap.size, 1, none⟩ = some (.int .i64 u.im) ∧ W.cell? ⟨w0.heap.size, 2, none⟩ = some (.int .i64 u.den) ∧
    W.cell? ⟨w0.heap.size + 1, 0, none⟩ = some (.int .i64 v.re) ∧ W.cell? ⟨w0.heap.size + 1, 1, none⟩ = some (.int .i64 v.im) ∧ W.cell? ⟨w0.heap.size + 1, 2, none⟩ = some (.int .i64 v.den) ∧ W.cell? ⟨bp, 0, none⟩ = some (.pointer (some ⟨bs, 0, none⟩)) :=
  ⟨h.a.c0, h.a.c1, h.a.c2, h.b.c0, h.b.c1, h.b.c2, h.p⟩
theorem PS.put {w0 W : World} {bp bs : Nat} {u v : Fr} (h : PS w0 bp bs u v W) (hp : bs < bp) (hpw : bp < w0.heap.size) (y : Fr) : PS w0 bp bs u v (((W.setCell ⟨w0.heap.size + 1 + 1, 0, none⟩ (.int .i64 y.re)).setCell ⟨w0.heap.size + 1 + 1, 1, none⟩ (.int .i64 y.im)).setCell ⟨w0.heap.size + 1 + 1, 2, none⟩ (.int .i64 y.den)) := by
  obtain ⟨z, hz⟩ := h.r
  have hb : BelX W.heap.size (w0.heap.size + 1 + 1) W (((W.setCell ⟨w0.heap.size + 1 + 1, 0, none⟩ (.int .i64 y.re)).setCell ⟨w0.heap.size + 1 + 1, 1, none⟩ (.int .i64 y.im)).setCell ⟨w0.heap.size + 1 + 1, 2, none⟩ (.int .i64 y.den)) := (((BelX.refl _ _ _).setSum _).setSum _).setSum _
  exact ⟨h.a.step hb h.a.lt (by omega), h.b.step hb h.b.lt (by omega), ⟨y, hz.put y⟩, (World.cell?_of_block (w := W) (a := ⟨bp, 0, none⟩) (hb.block bp (by have := h.X.size; omega) (by omega))).trans h.p, ((h.X.setCell (by show w0.heap.size ≤ w0.heap.size + 1 + 1; omega) _).setCell (by show w0.heap.size ≤ w0.heap.size + 1 + 1; omega) _).setCell (by show w0.heap.size ≤ w0.heap.size + 1 + 1; omega) _⟩
set_option maxRecDepth 100000 in
set_option maxHeartbeats 2000000 in
theorem tpair (bp bs : Nat) (bad : Bool) (u v : Fr) (w : World) (hs : SumIs w bs bad) (hp : bs < bp) (hpw : bp < w.heap.size) (hP : w.cell? ⟨bp, 0, none⟩ = some (.pointer (some ⟨bs, 0, none⟩))) :
    Calls Tryz.prog 40 #[frv u, frv v, .pointer (some ⟨bp, 0, none⟩)] w fun e w' => e = .returned (frv (pairV u v)) ∧ SumIs w' bs (bad || pairN u v) ∧ BelX w.heap.size bs w w' := by
  have hlt := hs.lt
  have hne : w.heap.size ≠ bs ∧ w.heap.size + 1 ≠ bs ∧ w.heap.size + 1 + 1 ≠ bs := ⟨by omega, by omega, by omega⟩
  have hPS0 : ∀ (tu tv tr : TypeId), PS w bp bs u v (((w.alloc (.cells #[.int .i64 u.re, .int .i64 u.im, .int .i64 u.den] tu)).alloc (.cells #[.int .i64 v.re, .int .i64 v.im, .int .i64 v.den] tv)).alloc (.cells #[.int .i64 0, .int .i64 0, .int .i64 0] tr)) := fun tu tv tr => by
    have e1 : (w.alloc (.cells #[.int .i64 u.re, .int .i64 u.im, .int .i64 u.den] tu)).heap.size = w.heap.size + 1 := by simp
    have e2 : ((w.alloc (.cells #[.int .i64 u.re, .int .i64 u.im, .int .i64 u.den] tu)).alloc (.cells #[.int .i64 v.re, .int .i64 v.im, .int .i64 v.den] tv)).heap.size = w.heap.size + 1 + 1 := by simp
    refine ⟨((FrG.new w u tu).alloc _).alloc _, ?_, ?_, ?_, ?_⟩
    · have := (FrG.new (w.alloc (.cells #[.int .i64 u.re, .int .i64 u.im, .int .i64 u.den] tu)) v tv).alloc (.cells #[.int .i64 0, .int .i64 0, .int .i64 0] tr)
      rwa [e1] at this
    · have := FrG.new ((w.alloc (.cells #[.int .i64 u.re, .int .i64 u.im, .int .i64 u.den] tu)).alloc (.cells #[.int .i64 v.re, .int .i64 v.im, .int .i64 v.den] tv)) ⟨0, 0, 0⟩ tr
      rw [e2] at this
      exact ⟨_, this⟩
    · rw [World.cell?_alloc_lt _ _ _ (by show bp < _; omega), World.cell?_alloc_lt _ _ _ (by show bp < _; omega), World.cell?_alloc_lt _ _ _ (by show bp < _; omega)]; exact hP
    · exact ((((BelX.refl _ _ _).alloc (Nat.le_refl _) _).alloc (by omega) _).alloc (by omega) _)
  go_enter Tryz.func40, Tryz.ntmps40
  go_wp2
  have hQ := (hPS0 25 25 25).drew
  go_region_held3 (fun w' => w'.cell? ⟨w.heap.size, 0, none⟩ = some (.int .i64 (u.re)) ∧ w'.cell? ⟨w.heap.size, 1, none⟩ = some (.int .i64 (u.im)) ∧ w'.cell? ⟨w.heap.size, 2, none⟩ = some (.int .i64 (u.den)) ∧ w'.cell? ⟨w.heap.size + 1, 0, none⟩ = some (.int .i64 (v.re)) ∧ w'.cell? ⟨w.heap.size + 1, 1, none⟩ = some (.int .i64 (v.im)) ∧ w'.cell? ⟨w.heap.size + 1, 2, none⟩ = some (.int .i64 (v.den)) ∧ w'.cell? ⟨bp, 0, none⟩ = some (.pointer (some ⟨bs, 0, none⟩))) ((refine PS.cells (w0 := w) (bp := bp) (bs := bs) (u := u) (v := v) ?_; (first | (with_reducible assumption) | exact hPS0 _ _ _ | exact PS.put (by assumption) hp hpw _ | exact (hPS0 _ _ _).drew))) (first | (go_at_call 41; (with_reducible refine (x_mirror v bs _ (by exact sum_)).mono ?_); rintro e w1 ⟨rfl, hu, hx⟩; have hs1 := hu _ (by exact sum_); clear hu; have hPS1 : PS w bp bs u v w1 := PS.step (by first | assumption | exact (hPS0 _ _ _).drew) hx hp hpw; clear hx) | (go_at_call 37; (with_reducible refine (x_times u _ bs _ (by exact sum_)).mono ?_); rintro e w2 ⟨rfl, hu, hx⟩; have hs2 := hu _ (by exact sum_); clear hu; have hPS2 : PS w bp bs u v w2 := PS.step (by first | assumption | exact (hPS0 _ _ _).drew) hx hp hpw; clear hx; obtain ⟨z, hz⟩ := hPS2.r; obtain ⟨r0, r1, r2⟩ := hz.three; have rf := hz.f; have hX := hPS2.X))
  go_wp2
  exact bodyPost_ret (v := frv (pairV u v)) (by simp [results, Tryz.results40, go_sem, pairV, vN, zK, *]) rfl ⟨rfl, by rw [show (bad || pairN u v) = (bad || (mirrorI v).isNone || (timesI u ((mirrorI v).getD ⟨0, 0, 0⟩)).isNone) by simp [pairN, vN, zK, Bool.or_assoc]]; exact sum_, by exact belx_⟩
set_option maxRecDepth 100000 in
set_option maxHeartbeats 2000000 in
theorem thalf (bp bs : Nat) (bad : Bool) (u : Fr) (w : World) (hs : SumIs w bs bad) (hG : GZ w) (hp : bs < bp) (hpw : bp < w.heap.size) (hP : w.cell? ⟨bp, 0, none⟩ = some (.pointer (some ⟨bs, 0, none⟩))) :
    Calls Tryz.prog 42 #[frv u, .pointer (some ⟨bp, 0, none⟩)] w fun e w' => e = .returned (frv (vN (halfI u))) ∧ SumIs w' bs (bad || (halfI u).isNone) ∧ BelX w.heap.size bs w w' := by
  have hlt := hs.lt
  have hne : w.heap.size ≠ bs ∧ w.heap.size + 1 ≠ bs ∧ w.heap.size + 1 + 1 ≠ bs := ⟨by omega, by omega, by omega⟩
  have hX : BelX w.heap.size bs w w := BelX.refl _ _ _
  have hpw1 : bp < w.heap.size + 1 := by omega
  have hpw2 : bp < w.heap.size + 1 + 1 := by omega
  have hpw3 : bp < w.heap.size + 2 := by omega
  have hpw4 : bp < w.heap.size + 3 := by omega
  go_enter Tryz.func42, Tryz.ntmps42
  go_wp2
  go_region_with (first | (go_at_call 44; (with_reducible refine (whole_any 2 _).mono ?_); rintro e w1 ⟨rfl, hb⟩; obtain ⟨hc, hf⟩ := bf hb (w.heap.size + 1 + 1) side_; have hs := hb.size; (try simp only [World.size_alloc, World.size_setCell, World.size_drew, World.heap_drewN] at hs); have hl : w.heap.size ≤ w1.heap.size ∧ w.heap.size < w1.heap.size ∧ w.heap.size + 1 < w1.heap.size := ⟨by omega, by omega, by omega⟩; have hB : Below w.heap.size w w1 := bstep (by exact below_) hb side_; have hs1 : SumIs w1 (bs) _ := SumIs.below (by exact sum_) hb side_; have hcs1 := hs1.cell; have hfs1 := hs1.frozen; clear hs hb) | (go_at_call 43; (with_reducible refine (x_over u ⟨2, 0, 1⟩ bs _ (by exact sum_) (hG.below (by exact below_))).mono ?_); rintro e w1 ⟨rfl, hu, hx⟩; have hs1 := hu _ (by exact sum_); clear hu; obtain ⟨hc, hf⟩ := bfxL hx side_; obtain ⟨hc3, hf3⟩ := bfxU hx (w.heap.size + 1 + 1) side_; have hs2 := hx.size; (try simp only [World.size_alloc, World.size_setCell, World.size_drew, World.heap_drewN] at hs2); have hl : w.heap.size ≤ w1.heap.size ∧ w.heap.size < w1.heap.size ∧ w.heap.size + 1 < w1.heap.size := ⟨by omega, by omega, by omega⟩; have hcs1 := hs1.cell; have hfs1 := hs1.frozen; have hX : BelX w.heap.size bs w w1 := BelX.step (by exact belx_) hx side_; clear hs2 hx))
  all_goals (
  go_wp2
  exact bodyPost_ret (v := frv (vN (halfI u))) (by simp [results, Tryz.results42, go_sem, halfI, vN, zK, *]) rfl ⟨rfl, (by show SumIs _ bs (bad || (overI u ⟨2, 0, 1⟩).isNone); exact sum_), by exact belx_⟩)
end
section
open Go.RowKit
attribute [local go_sem ↓] Go.wp_at_zero Go.wp_at_succ
/-- What TableOf's regions keep: the reckoning, the result's block, the pointer's block, the variables' blocks. -/
structure TW (w : World) (b4 : Nat) (fs : List (Nat × Fr)) (bad : Bool) (W : World) : Prop where
  B : Below w.heap.size w W
  s : SumIs W (w.heap.size + 1 + 1) bad
  r : TbIs W (w.heap.size + 1) zs16
  p : w.heap.size + 1 + 1 < b4 ∧ Blk W b4 #[ptv (w.heap.size + 1 + 1)] 62
  f : ∀ q ∈ fs, w.heap.size + 1 + 1 < q.1 ∧ Blk W q.1 (frc q.2) 25
theorem TW.step {w W W' : World} {b4 : Nat} {fs : List (Nat × Fr)} {bad bad' : Bool} (h : TW w b4 fs bad W) (X : BelX W.heap.size (w.heap.size + 1 + 1) W W') (s : SumIs W' (w.heap.size + 1 + 1) bad') : TW w b4 fs bad' W' := by
  have l1 := h.r.lt
  have l2 := (Array.getElem?_eq_some_iff.1 h.p.2).1
  have l3 := h.s.lt
  refine ⟨((BelX.of h.B).trans (X.mono h.B.size)).below (by omega), s, h.r.step X (by omega), ⟨h.p.1, (X.block b4 l2 (by have := h.p.1; omega)).trans h.p.2⟩, fun q hq => ?_⟩
  obtain ⟨g1, g2⟩ := h.f q hq
  have l4 := (Array.getElem?_eq_some_iff.1 g2).1
  exact ⟨g1, (X.block q.1 l4 (by omega)).trans g2⟩
theorem TW.more {w W : World} {b4 b : Nat} {fs : List (Nat × Fr)} {bad : Bool} {f : Fr} (h : TW w b4 fs bad W) (hb : w.heap.size + 1 + 1 < b) (hc : Blk W b (frc f) 25) : TW w b4 (fs ++ [(b, f)]) bad W :=
  ⟨h.B, h.s, h.r, h.p, fun q hq => by
    rcases List.mem_append.1 hq with h1 | h1
    · exact h.f q h1
    · simp at h1; subst h1; exact ⟨hb, hc⟩⟩
theorem mixO : (Tryz.prog).follows .mixedOrders = true := by kernel_rfl
theorem sz_Frac : ((Tryz.prog).info? 25).map (·.size) = some 3 := by kernel_rfl
theorem run_allocFr (w : World) : (Instr.alloc 25 true (.tuple #[])).run Tryz.prog w = .ok (.pointer (some ⟨w.heap.size, 0, none⟩)) (w.alloc (.cells z3c 25)) := by kernel_rfl
/-- A load of one cell. -/
theorem rj_load1 {W0 : World} {bs : Nat} {bad : Nat → Bool} {als : List (Nat × Nat)} {st : Nat → Nat} {cz : Array Value} {cv : Nat → Array Value} {ty : TypeId} {b : Nat} {q : Nat} (hb : Blk W0 b #[ptv q] 62) (hne : b ≠ bs) :
    ∀ m k w, RJ W0 bs bad als st cz cv ty m k w → (Instr.loadAt 62 (.pointer (some ⟨b, 0, none⟩))).run Tryz.prog w = .ok (ptv q) w := by
  intro m k w h
  have hlt := (Array.getElem?_eq_some_iff.1 hb).1
  have hc : w.cell? ⟨b, 0, none⟩ = some (ptv q) := by
    have := (h.X.block b hlt hne).trans hb
    simp [World.cell?, this]
  simp [go_sem, hc, ptv]
noncomputable def ops2 : List Oper := (regionAt Tryz.f12 2).toList
def rd2 : List Nat := [1, 2, 3, 4]
def v2 (b r b4 : Nat) (m : Mt) (t : Nat) : Value := if t < 21 then nth [undef, ptv b, ptv r, .bool false, ptv b4] t else nth [.pointer (some ⟨b, 0, none⟩), .pointer (some ⟨b, 0, none⟩), frv m.a, .pointer (some ⟨b, 0, none⟩), .pointer (some ⟨b, 3, none⟩), frv m.b, .pointer (some ⟨b, 0, none⟩), .pointer (some ⟨b, 6, none⟩), frv m.c, .pointer (some ⟨b, 0, none⟩), .pointer (some ⟨b, 9, none⟩), frv m.d] (t - 21)
def als2 : List (Nat × Nat) := [(5, 12), (6, 13), (7, 14), (8, 15)]
def st2 (t : Nat) : Nat := t - 5
def cv2 (m : Mt) (t : Nat) : Array Value := if t = 5 then frc m.a else if t = 6 then frc m.b else if t = 7 then frc m.c else frc m.d
theorem mk2 : alsOk ops2 als2 = true := by kernel_rfl
theorem ln2 : ops2.length = 20 ∧ callsTo ops2 20 = 4 := ⟨by kernel_rfl, by kernel_rfl⟩
theorem ok2 : opsOk ops2 21 rd2 als2 none 0 ops2 = true := by kernel_rfl
theorem mt_part (m : Mt) (k : Nat) (f : Fr) (w : World) (b : Nat) (hf : ∀ j, j < 3 → (mtc m)[k * 3 + j]? = (frc f)[j]?) (h : Blk w b (mtc m) 36) : FAt w b (k * 3) f := by
  have key : ∀ j u, j < 3 → (frc f)[j]? = some u → w.cell? ⟨b, k * 3 + j, none⟩ = some u := fun j u hj hu => by
    rw [cell_of_row w b (k * 3 + j) _ _ _ h, hf j hj]
    exact hu
  exact ⟨key 0 _ (by omega) rfl, key 1 _ (by omega) rfl, key 2 _ (by omega) rfl⟩

set_option maxRecDepth 100000 in
set_option maxHeartbeats 4000000 in
theorem reg2 (W0 : World) (bs b r b4 : Nat) (bad : Bool) (m : Mt) (hbs : bs < W0.heap.size) (hne : b ≠ bs) (hM : Blk W0 b (mtc m) 36) :
    Obs als2 (v2 b r b4 m) ops2 (RJ W0 bs (fun _ => bad) als2 st2 z3c (cv2 m) 25) Tryz.prog 21 0 0 ops2 := by
    have ld : ∀ (k : Nat) (f : Fr) (hf : ∀ j, j < 3 → (mtc m)[k * 3 + j]? = (frc f)[j]?), ∀ mm kk w, RJ W0 bs (fun _ => bad) als2 st2 z3c (cv2 m) 25 mm kk w → (Instr.loadAt 25 (.pointer (some ⟨b, k * 3, none⟩))).run Tryz.prog w = .ok (frv f) w := fun k f hf mm kk w h => by
      have hlt := (Array.getElem?_eq_some_iff.1 hM).1
      obtain ⟨c0, c1, c2⟩ := mt_part m k f w b hf ((h.X.block b hlt hne).trans hM)
      simp [go_sem, c0, c1, c2]
    have mtl0 : ∀ j, j < 3 → (mtc m)[0 * 3 + j]? = (frc m.a)[j]? := fun j hj => by match j, hj with | 0, _ => rfl | 1, _ => rfl | 2, _ => rfl
    have mtl1 : ∀ j, j < 3 → (mtc m)[1 * 3 + j]? = (frc m.b)[j]? := fun j hj => by match j, hj with | 0, _ => rfl | 1, _ => rfl | 2, _ => rfl
    have mtl2 : ∀ j, j < 3 → (mtc m)[2 * 3 + j]? = (frc m.c)[j]? := fun j hj => by match j, hj with | 0, _ => rfl | 1, _ => rfl | 2, _ => rfl
    have mtl3 : ∀ j, j < 3 → (mtc m)[3 * 3 + j]? = (frc m.d)[j]? := fun j hj => by match j, hj with | 0, _ => rfl | 1, _ => rfl | 2, _ => rfl
    refine obs_field (i := 0) rfl rfl rfl rfl (fun w => rfl) ?_
    refine obs_index (i := 1) rfl rfl rfl rfl (fun w => by kernel_rfl) ?_
    refine obs_load (i := 2) rfl rfl rfl rfl (ld 0 m.a mtl0) ?_
    refine obs_field (i := 3) rfl rfl rfl rfl (fun w => rfl) ?_
    refine obs_index (i := 4) rfl rfl rfl rfl (fun w => by kernel_rfl) ?_
    refine obs_load (i := 5) rfl rfl rfl rfl (ld 1 m.b mtl1) ?_
    refine obs_field (i := 6) rfl rfl rfl rfl (fun w => rfl) ?_
    refine obs_index (i := 7) rfl rfl rfl rfl (fun w => by kernel_rfl) ?_
    refine obs_load (i := 8) rfl rfl rfl rfl (ld 2 m.c mtl2) ?_
    refine obs_field (i := 9) rfl rfl rfl rfl (fun w => rfl) ?_
    refine obs_index (i := 10) rfl rfl rfl rfl (fun w => by kernel_rfl) ?_
    refine obs_load (i := 11) rfl rfl rfl rfl (ld 3 m.d mtl3) ?_
    refine obs_alloc (i := 12) rfl rfl rfl (rj_alloc (t := 5) rfl run_allocFr) ?_
    refine obs_alloc (i := 13) rfl rfl rfl (rj_alloc (t := 6) rfl run_allocFr) ?_
    refine obs_alloc (i := 14) rfl rfl rfl (rj_alloc (t := 7) rfl run_allocFr) ?_
    refine obs_alloc (i := 15) rfl rfl rfl (rj_alloc (t := 8) rfl run_allocFr) ?_
    refine obs_store (i := 16) (k := 0) rfl rfl rfl rfl rfl (rj_store (t := 5) hbs rfl (ix_inj rfl) rfl rfl (frc_one _) sz_Frac) ?_
    refine obs_store (i := 17) (k := 1) rfl rfl rfl rfl rfl (rj_store (t := 6) hbs rfl (ix_inj rfl) rfl rfl (frc_one _) sz_Frac) ?_
    refine obs_store (i := 18) (k := 2) rfl rfl rfl rfl rfl (rj_store (t := 7) hbs rfl (ix_inj rfl) rfl rfl (frc_one _) sz_Frac) ?_
    refine obs_store (i := 19) (k := 3) rfl rfl rfl rfl rfl (rj_store (t := 8) hbs rfl (ix_inj rfl) rfl rfl (frc_one _) sz_Frac) ?_
    exact obs_nil rfl
def badL (bad : Bool) (ns : List Bool) : Nat → Bool
  | 0 => bad
  | k + 1 => match ns[k]? with
    | some n => badL bad ns k || n
    | none => badL bad ns k
noncomputable def ops3 : List Oper := (regionAt Tryz.f12 3).toList
def rd3 : List Nat := [2, 3, 4, 5, 6, 7, 8]
def v3 (bs r b4 b5 b6 b7 b8 : Nat) (m : Mt) (t : Nat) : Value := if t < 33 then nth [undef, undef, ptv r, .bool false, ptv b4, ptv b5, ptv b6, ptv b7, ptv b8] t else nth [ptv bs, frv m.a, frv (vN (powerI m.a)), ptv bs, frv m.b, frv (vN (powerI m.b)), ptv bs, frv m.c, frv (vN (powerI m.c)), ptv bs, frv m.d, frv (vN (powerI m.d))] (t - 33)
def als3 : List (Nat × Nat) := [(9, 12), (10, 13), (11, 14), (12, 15)]
def st3 (t : Nat) : Nat := t - 5
def cv3 (m : Mt) (t : Nat) : Array Value := if t = 9 then frc (vN (powerI m.a)) else if t = 10 then frc (vN (powerI m.b)) else if t = 11 then frc (vN (powerI m.c)) else frc (vN (powerI m.d))
def ns3 (m : Mt) : List Bool := [(powerI m.a).isNone, (powerI m.b).isNone, (powerI m.c).isNone, (powerI m.d).isNone]
theorem mk3 : alsOk ops3 als3 = true := by kernel_rfl
theorem ln3 : ops3.length = 20 ∧ callsTo ops3 20 = 8 := ⟨by kernel_rfl, by kernel_rfl⟩
theorem ok3 : opsOk ops3 33 rd3 als3 none 0 ops3 = true := by kernel_rfl
set_option maxRecDepth 100000 in
set_option maxHeartbeats 4000000 in
theorem reg3 (W0 : World) (bs r b4 b5 b6 b7 b8 : Nat) (bad : Bool) (m : Mt) (hbs : bs < W0.heap.size) (hn4 : b4 ≠ bs) (hn5 : b5 ≠ bs) (hn6 : b6 ≠ bs) (hn7 : b7 ≠ bs) (hn8 : b8 ≠ bs)
    (h4 : Blk W0 b4 #[ptv bs] 62) (h5 : Blk W0 b5 (frc m.a) 25) (h6 : Blk W0 b6 (frc m.b) 25) (h7 : Blk W0 b7 (frc m.c) 25) (h8 : Blk W0 b8 (frc m.d) 25) :
    Obs als3 (v3 bs r b4 b5 b6 b7 b8 m) ops3 (RJ W0 bs (badL bad (ns3 m)) als3 st3 z3c (cv3 m) 25) Tryz.prog 33 0 0 ops3 := by
    have lf : ∀ (b : Nat) (f : Fr), Blk W0 b (frc f) 25 → b ≠ bs → ∀ mm k w, RJ W0 bs (badL bad (ns3 m)) als3 st3 z3c (cv3 m) 25 mm k w → (Instr.loadAt 25 (.pointer (some ⟨b, 0, none⟩))).run Tryz.prog w = .ok (frv f) w :=
      fun b f hb hn => rj_load hb hn Tryz.underlying25 rfl sz_Frac
    refine obs_load (i := 0) rfl rfl rfl rfl (rj_load1 h4 hn4) ?_
    refine obs_load (i := 1) rfl rfl rfl rfl (lf b5 m.a h5 hn5) ?_
    refine obs_call (i := 2) (k := 0) rfl rfl Tryz.func39 rfl rfl rfl rfl (rj_call [ptv bs, frv m.a] (frv (vN (powerI m.a))) hbs (ix_ne rfl) rfl (fun w h _ => x_power m.a bs w h)) ?_
    refine obs_load (i := 3) rfl rfl rfl rfl (rj_load1 h4 hn4) ?_
    refine obs_load (i := 4) rfl rfl rfl rfl (lf b6 m.b h6 hn6) ?_
    refine obs_call (i := 5) (k := 1) rfl rfl Tryz.func39 rfl rfl rfl rfl (rj_call [ptv bs, frv m.b] (frv (vN (powerI m.b))) hbs (ix_ne rfl) rfl (fun w h _ => x_power m.b bs w h)) ?_
    refine obs_load (i := 6) rfl rfl rfl rfl (rj_load1 h4 hn4) ?_
    refine obs_load (i := 7) rfl rfl rfl rfl (lf b7 m.c h7 hn7) ?_
    refine obs_call (i := 8) (k := 2) rfl rfl Tryz.func39 rfl rfl rfl rfl (rj_call [ptv bs, frv m.c] (frv (vN (powerI m.c))) hbs (ix_ne rfl) rfl (fun w h _ => x_power m.c bs w h)) ?_
    refine obs_load (i := 9) rfl rfl rfl rfl (rj_load1 h4 hn4) ?_
    refine obs_load (i := 10) rfl rfl rfl rfl (lf b8 m.d h8 hn8) ?_
    refine obs_call (i := 11) (k := 3) rfl rfl Tryz.func39 rfl rfl rfl rfl (rj_call [ptv bs, frv m.d] (frv (vN (powerI m.d))) hbs (ix_ne rfl) rfl (fun w h _ => x_power m.d bs w h)) ?_
    refine obs_alloc (i := 12) rfl rfl rfl (rj_alloc (t := 9) rfl run_allocFr) ?_
    refine obs_alloc (i := 13) rfl rfl rfl (rj_alloc (t := 10) rfl run_allocFr) ?_
    refine obs_alloc (i := 14) rfl rfl rfl (rj_alloc (t := 11) rfl run_allocFr) ?_
    refine obs_alloc (i := 15) rfl rfl rfl (rj_alloc (t := 12) rfl run_allocFr) ?_
    refine obs_store (i := 16) (k := 4) rfl rfl rfl rfl rfl (rj_store (t := 9) hbs rfl (ix_inj rfl) rfl rfl (frc_one _) sz_Frac) ?_
    refine obs_store (i := 17) (k := 5) rfl rfl rfl rfl rfl (rj_store (t := 10) hbs rfl (ix_inj rfl) rfl rfl (frc_one _) sz_Frac) ?_
    refine obs_store (i := 18) (k := 6) rfl rfl rfl rfl rfl (rj_store (t := 11) hbs rfl (ix_inj rfl) rfl rfl (frc_one _) sz_Frac) ?_
    refine obs_store (i := 19) (k := 7) rfl rfl rfl rfl rfl (rj_store (t := 12) hbs rfl (ix_inj rfl) rfl rfl (frc_one _) sz_Frac) ?_
    exact obs_nil rfl
end
section
open Go.RowKit
attribute [local go_sem ↓] Go.wp_at_zero Go.wp_at_succ
theorem results_row_slot {P : Program} {fn : Func} {p q : Tmp} {ty : TypeId} (h : fn.results = #[.cell p ty, .tmp q]) (tmps : Array Value) (w : World) (g : Nat) (t : TypeId) (cs : Array Value) (fr : Nat × Nat) (d : TypeDesc)
    (hp : tmps.getD p undef = .pointer (some ⟨g, 0, none⟩)) (hg : w.heap[g]? = some (.cells cs t fr))
    (hu : P.underlying ty = some d) (hd : (match d with | .struct _ | .array _ _ => true | _ => false) = true) (hi : (P.info? ty).map (·.size) = some cs.size) :
    (results fn tmps).run P w = .ok (.tuple #[.agg cs, tmps.getD q undef]) w := by
  have hp' : tmps[p]?.getD undef = .pointer (some ⟨g, 0, none⟩) := by simpa using hp
  simp [results, h, hp', asAddr, run_loadVar_row w g t ty cs fr d hg hu hd hi]
theorem szTab (xs : List Fr) (h : xs.length = 16) : ((Tryz.prog).info? 44).map (·.size) = some (tbc xs).size := by rw [tbc_size, h]; kernel_rfl
theorem tab_row {w : World} {xs : List Fr} : ((w.alloc (.cells (tbc xs) 44)).alloc (.cells (tbc zs16) 44)).heap[w.heap.size]? = some (.cells (tbc xs) 44 (0, 0)) :=
  (Below.heap_alloc _ _ _ (by simp)).trans (heap_alloc_last w _)
theorem tab_new {w : World} {xs : List Fr} : ((w.alloc (.cells (tbc xs) 44)).alloc (.cells (tbc zs16) 44)).heap[w.heap.size + 1]? = some (.cells (tbc zs16) 44 (0, 0)) := by
  have := heap_alloc_last (w.alloc (.cells (tbc xs) 44)) (.cells (tbc zs16) 44)
  rwa [World.size_alloc] at this
set_option maxRecDepth 100000 in
set_option maxHeartbeats 2000000 in
theorem got_tabT (xs : List Fr) (bs : Nat) (w : World) (hx : xs.length = 16) (hs : SumIs w bs false) :
    Calls Tryz.prog 49 #[.pointer (some ⟨bs, 0, none⟩), .agg (tbc xs)] w fun e w' => e = .returned (.tuple #[tbv xs, .bool true]) ∧ Below w.heap.size w w' := by
  have hlt := hs.lt
  have hcs := hs.cell
  go_enter Tryz.func49, Tryz.ntmps49
  go_wp2_with (first | (refine wpList_load_row rfl 44 _ rfl w.heap.size rfl 44 (tbc xs) (0, 0) _ tab_row Tryz.underlying44 rfl (szTab xs hx) ?_) | (refine wpList_store_row rfl 44 _ _ rfl (w.heap.size + 1) (tbc xs) rfl rfl 44 (tbc zs16) tab_new (szTab xs hx) (by rw [tbc_size, tbc_size, hx]; rfl) (tbc_one _) ?_))
  refine bodyPost_ret (v := .tuple #[tbv xs, .bool true]) (results_row_slot Tryz.results49 _ _ (w.heap.size + 1) 44 (tbc xs) (0, 0) _ rfl (setRow_heap _ _ (tbc zs16) _ _ _ tab_new) Tryz.underlying44 rfl (szTab xs hx)) rfl ⟨rfl, below_setRow (((Below.refl _ _).alloc (Nat.le_refl _) _).alloc (by simp) _) (by omega) _⟩
set_option maxRecDepth 100000 in
set_option maxHeartbeats 2000000 in
theorem got_tabF (xs : List Fr) (bs : Nat) (w : World) (hx : xs.length = 16) (hs : SumIs w bs true) :
    Calls Tryz.prog 49 #[.pointer (some ⟨bs, 0, none⟩), .agg (tbc xs)] w fun e w' => e = .returned (.tuple #[tbv zs16, .bool false]) ∧ Below w.heap.size w w' := by
  have hlt := hs.lt
  have hcs := hs.cell
  have hz6 : (((w.alloc (.cells (tbc xs) 44)).alloc (.cells (tbc zs16) 44)).alloc (.cells (tbc zs16) 44)).heap[w.heap.size + 1 + 1]? = some (.cells (tbc zs16) 44 (0, 0)) := by
    have := heap_alloc_last ((w.alloc (.cells (tbc xs) 44)).alloc (.cells (tbc zs16) 44)) (.cells (tbc zs16) 44)
    rwa [World.size_alloc, World.size_alloc] at this
  have hz4 : (((w.alloc (.cells (tbc xs) 44)).alloc (.cells (tbc zs16) 44)).alloc (.cells (tbc zs16) 44)).heap[w.heap.size + 1]? = some (.cells (tbc zs16) 44 (0, 0)) := (Below.heap_alloc _ _ _ (by simp)).trans tab_new
  go_enter Tryz.func49, Tryz.ntmps49
  go_wp2_with (first | (refine wpList_load_row rfl 44 _ rfl (w.heap.size + 1 + 1) rfl 44 (tbc zs16) (0, 0) _ hz6 Tryz.underlying44 rfl (szTab _ rfl) ?_) | (refine wpList_store_row rfl 44 _ _ rfl (w.heap.size + 1) (tbc zs16) rfl rfl 44 (tbc zs16) hz4 (szTab _ rfl) rfl (tbc_one _) ?_))
  refine bodyPost_ret (v := .tuple #[tbv zs16, .bool false]) (results_row_slot Tryz.results49 _ _ (w.heap.size + 1) 44 (tbc zs16) (0, 0) _ rfl (setRow_heap _ _ (tbc zs16) _ _ _ hz4) Tryz.underlying44 rfl (szTab _ rfl)) rfl ⟨rfl, below_setRow ((((Below.refl _ _).alloc (Nat.le_refl _) _).alloc (by simp) _).alloc (by simp; omega) _) (by omega) _⟩
end
section
open Go.RowKit
attribute [local go_sem ↓] Go.wp_at_zero Go.wp_at_succ
theorem tbc_part (xs : List Fr) (k : Nat) (f : Fr) (h : xs[k]? = some f) : (tbc xs).extract (k * 3) (k * 3 + 3) = frc f := by
  have hk := (List.getElem?_eq_some_iff.1 h).1
  have hs := tbc_size xs
  apply Array.ext_getElem?
  intro i
  rw [Array.getElem?_extract]
  have key : ∀ j, j < 3 → (tbc xs)[k * 3 + j]? = (frc f)[j]? := fun j hj => by
    have := rowF_get xs k f h j hj
    simpa [tbc, frc, fracL] using this
  by_cases hi : i < 3
  · rw [if_pos (by omega)]; exact key i hi
  · rw [if_neg (by omega)]
    symm
    rw [Array.getElem?_eq_none (by simp [frc]; omega)]
theorem idxT (xs : List Fr) (k : Nat) (f : Fr) (h : xs[k]? = some f) (hx : xs.length = 16) (w : World) : (Instr.index 42 (.agg (tbc xs)) (.int .i64 k)).run Tryz.prog w = .ok (frv f) w := by
  have hk := (List.getElem?_eq_some_iff.1 h).1
  have e := tbc_part xs k f h
  have h0 : (0 : Int) ≤ (k : Int) ∧ (k : Int) < 16 := by omega
  have hu : (Tryz.prog).underlying 42 = some (.array 16 25) := Tryz.underlying42
  have hk16 : k < 16 := by omega
  simp [Instr.index, go_sem, hu, h0, hk16, part, e, frc]
theorem szArr (xs : List Fr) (h : xs.length = 16) : ((Tryz.prog).info? 42).map (·.size) = some (tbc xs).size := by rw [tbc_size, h]; kernel_rfl
theorem realOk_t (a : Fr) (w : World) (h : realOk a = true) : Calls Tryz.prog 59 #[frv a] w fun e w' => e = .returned (.bool true) ∧ Below w.heap.size w w' := by rw [← h]; exact realOk_any a w
theorem realOk_f (a : Fr) (w : World) (h : realOk a = false) : Calls Tryz.prog 59 #[frv a] w fun e w' => e = .returned (.bool false) ∧ Below w.heap.size w w' := by rw [← h]; exact realOk_any a w
set_option maxRecDepth 100000 in
set_option maxHeartbeats 2000000 in
theorem tvalid_any (xs : List Fr) (w : World) (hx : xs.length = 16) :
    Calls Tryz.prog 50 #[.agg (tbc xs)] w fun e w' => e = .returned (.bool (xs.all realOk)) ∧ Below w.heap.size w w' := by
  have hrow : (w.alloc (.cells (tbc xs) 44)).heap[w.heap.size]? = some (.cells (tbc xs) 44 (0, 0)) := heap_alloc_last w _
  go_enter Tryz.func50, Tryz.ntmps50
  go_wp2_with (refine wpList_load_row rfl 42 _ rfl w.heap.size rfl 44 (tbc xs) (0, 0) _ hrow Tryz.underlying42 rfl (szArr xs hx) ?_)
  go_loopw [7] (fun i wr => ∃ k : Nat, k ≤ 16 ∧ i = .int .i64 k ∧ Hid ((xs.take k).all realOk = true) ∧ Below w.heap.size w wr) (fun i _ => 16 - (intOf i).toNat)
  case atStart => exact ⟨0, Nat.zero_le _, rfl, rfl, by exact below_⟩
  case round =>
    clear hrow
    obtain ⟨k, hk, rfl, hall, hb⟩ := hrel
    have hz := hb.size
    by_cases hkl : k < 16
    · have hs1 : xs[k]? = some (xs[k]'(by omega)) := List.getElem?_eq_getElem (by omega)
      obtain ⟨s, hs⟩ : ∃ s, s = xs[k]'(by omega) := ⟨_, rfl⟩
      rw [← hs] at hs1
      clear hs
      have HS1 := Lib.hid hs1
      have hidx := idxT xs k s hs1 hx
      clear hs1
      cases hv : realOk s
      · have HF := Lib.hid (all_fails HS1.out hv)
        go_wp2_with (first | (go_at_call 59; (with_reducible refine (realOk_f s _ (by assumption)).mono ?_); rintro e w1 ⟨rfl, hb⟩; obtain ⟨hc, hf⟩ := bf hb (w.heap.size) side_; have hs := hb.size; (try simp only [World.size_alloc, World.size_setCell, World.size_drew, World.heap_drewN] at hs); have hl : w.heap.size ≤ w1.heap.size := (by omega); have hB : Below w.heap.size w w1 := bstep (by exact below_) hb side_; clear hs hb))
        go_ret
        exact ⟨by rw [HF.out]; rfl, by exact below_⟩
      · go_wp2_with (first | (go_at_call 59; (with_reducible refine (realOk_t s _ (by assumption)).mono ?_); rintro e w1 ⟨rfl, hb⟩; obtain ⟨hc, hf⟩ := bf hb (w.heap.size) side_; have hs := hb.size; (try simp only [World.size_alloc, World.size_setCell, World.size_drew, World.heap_drewN] at hs); have hl : w.heap.size ≤ w1.heap.size := (by omega); have hB : Below w.heap.size w w1 := bstep (by exact below_) hb side_; clear hs hb))
        go_roundw
        case rel => exact ⟨k + 1, by omega, by go_num, Lib.hid (by rw [all_succ HS1.out, hall.out, hv]; rfl), by exact below_⟩
        case measure => simp [intOf]; omega
    · go_wp2
      go_ret
      have e : k = 16 := by omega
      subst e
      have := hall.out
      rw [List.take_of_length_le (by omega)] at this
      exact ⟨by rw [this]; rfl, by exact below_⟩
end
end Go.Proofs.YtodhbkinbcemnaaGreatDoor
