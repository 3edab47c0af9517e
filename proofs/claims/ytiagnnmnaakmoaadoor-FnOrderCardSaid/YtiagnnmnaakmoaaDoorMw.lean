/-
  The walk of the product of matrices (program).
-/
import Derived.Test.YtiagnnmnaakmoaaDoorMv
namespace Go.Proofs.YtiagnnmnaakmoaaDoor
set_option linter.unusedSimpArgs false
set_option linter.unusedVariables false
open Go.RowKit
attribute [local go_sem ↓] Go.wp_at_zero Go.wp_at_succ
theorem MtAt.keep {w w' : World} {b : Nat} {m : Mt} (h : MtAt w b m) (hc : ∀ o, w'.cell? ⟨b, o, none⟩ = w.cell? ⟨b, o, none⟩) : MtAt w' b m := by
  unfold MtAt at h ⊢
  simp only [hc]
  exact h
theorem JnAt.keep {w w' : World} {b : Nat} {m : Jn} (h : JnAt w b m) (hc : ∀ o, w'.cell? ⟨b, o, none⟩ = w.cell? ⟨b, o, none⟩) : JnAt w' b m := by
  unfold JnAt at h ⊢
  simp only [hc]
  exact h
/-- Whatever a cell holds. -/
def rc (w : World) (rb o : Nat) : Value := (w.cell? ⟨rb, o, none⟩).getD (.bool false)
theorem rc_of {w : World} {rb o : Nat} {v : Value} (h : w.cell? ⟨rb, o, none⟩ = some v) : w.cell? ⟨rb, o, none⟩ = some (rc w rb o) := by simp [rc, h]
/-- What a region with closures over A and B bears: both in place, the reckoning's pointer, the result's block. -/
structure MS (A B : World → Prop) (bp bs rb N : Nat) (w : World) : Prop where
  a : A w
  b : B w
  p : w.cell? ⟨bp, 0, none⟩ = some (.pointer (some ⟨bs, 0, none⟩))
  c : ∀ o, o < N → w.cell? ⟨rb, o, none⟩ = some (rc w rb o)
  f : ∀ o, o < N → w.frozen? ⟨rb, o, none⟩ = false
theorem ms_keep {A B : World → Prop} {ba bb bp bs rb N : Nat} {w w' : World} (kA : ∀ w w' : World, (∀ o, w'.cell? ⟨ba, o, none⟩ = w.cell? ⟨ba, o, none⟩) → A w → A w') (kB : ∀ w w' : World, (∀ o, w'.cell? ⟨bb, o, none⟩ = w.cell? ⟨bb, o, none⟩) → B w → B w')
    (h : MS A B bp bs rb N w ∧ w.cell? ⟨bp, 0, none⟩ = some (.pointer (some ⟨bs, 0, none⟩)) ∧ (∀ o, o < N → w.cell? ⟨rb, o, none⟩ = some (rc w rb o)) ∧ (∀ o, o < N → w.frozen? ⟨rb, o, none⟩ = false)) (hx : Hid (BelX w.heap.size bs w w')) (ha : ba < bs) (hb : bb < bs) (hr : rb < bs) (hp : bs < bp) (hw : bp < w.heap.size) : MS A B bp bs rb N w' := by
  obtain ⟨h1, h2, h3, h4, h5⟩ := h.1
  have hl := bfxL hx.out (by omega)
  have hu := bfxU hx.out _ (Nat.le_refl _)
  refine ⟨kA _ _ (fun o => hl.1 _ o ha) h1, kB _ _ (fun o => hl.1 _ o hb) h2, (hu.1 _ 0 hp hw).trans h3, fun o ho => ?_, fun o ho => (hl.2 _ o hr).trans (h5 o ho)⟩
  exact rc_of ((hl.1 _ o hr).trans (h4 o ho))
theorem ms_base {A B : World → Prop} {bp bs rb N : Nat} {w : World} (h : MS A B bp bs rb N w ∧ w.cell? ⟨bp, 0, none⟩ = some (.pointer (some ⟨bs, 0, none⟩)) ∧ (∀ o, o < N → w.cell? ⟨rb, o, none⟩ = some (rc w rb o)) ∧ (∀ o, o < N → w.frozen? ⟨rb, o, none⟩ = false)) : MS A B bp bs rb N w := h.1
theorem ms_set {A B : World → Prop} {ba bb bp bs rb N : Nat} {w : World} {o : Nat} {u : Value} (kA : ∀ w w' : World, (∀ o, w'.cell? ⟨ba, o, none⟩ = w.cell? ⟨ba, o, none⟩) → A w → A w') (kB : ∀ w w' : World, (∀ o, w'.cell? ⟨bb, o, none⟩ = w.cell? ⟨bb, o, none⟩) → B w → B w')
    (h : MS A B bp bs rb N w) (ha : ba < rb) (hb : bb < rb) (hp : rb < bp) : MS A B bp bs rb N (w.setCell ⟨rb, o, none⟩ u) := by
  obtain ⟨h1, h2, h3, h4, h5⟩ := h
  have hne : ∀ (b i : Nat), b ≠ rb → (w.setCell ⟨rb, o, none⟩ u).cell? ⟨b, i, none⟩ = w.cell? ⟨b, i, none⟩ := fun b i hn => World.cell?_setCell_other _ _ _ _ (by intro e; injection e with e1; exact hn e1.symm)
  refine ⟨kA _ _ (fun i => hne _ i (by omega)) h1, kB _ _ (fun i => hne _ i (by omega)) h2, (hne _ 0 (by omega)).trans h3, fun i hi => ?_, fun i hi => ?_⟩
  · by_cases e : o = i
    · subst e
      refine rc_of (v := u) ?_
      rw [cellSetSame, h4 o hi]; rfl
    · exact rc_of ((World.cell?_setCell_other _ _ _ _ (by intro k; injection k with k1 k2; exact e k2)).trans (h4 i hi))
  · rw [World.frozen?_setCell]; exact h5 i hi
theorem ms_drew {A B : World → Prop} {bp bs rb N : Nat} {w : World} (hA : A w.drew) (hB : B w.drew) (h3 : w.cell? ⟨bp, 0, none⟩ = some (.pointer (some ⟨bs, 0, none⟩))) (h4 : ∀ o, o < N → ∃ x, w.cell? ⟨rb, o, none⟩ = some x) (h5 : ∀ o, o < N → w.frozen? ⟨rb, o, none⟩ = false) : MS A B bp bs rb N w.drew :=
  ⟨hA, hB, h3, fun o ho => by obtain ⟨x, hx⟩ := h4 o ho; exact rc_of (w := w.drew) hx, h5⟩
theorem ms_all {A B : World → Prop} {bp bs rb N : Nat} {w : World} (h : MS A B bp bs rb N w) : MS A B bp bs rb N w ∧ w.cell? ⟨bp, 0, none⟩ = some (.pointer (some ⟨bs, 0, none⟩)) ∧ (∀ o, o < N → w.cell? ⟨rb, o, none⟩ = some (rc w rb o)) ∧ (∀ o, o < N → w.frozen? ⟨rb, o, none⟩ = false) := ⟨h, h.p, h.c, h.f⟩
theorem mtimes_eq (v : Bool) (m n : Mt) (h : v = (mvalid m && mvalid n)) :
    gotF (!v || cellN m.a n.a m.b n.c || cellN m.a n.b m.b n.d || cellN m.c n.a m.d n.c || cellN m.c n.b m.d n.d) Z12 ⟨cellV m.a n.a m.b n.c, cellV m.a n.b m.b n.d, cellV m.c n.a m.d n.c, cellV m.c n.b m.d n.d⟩ = (mtimesI m n).getD Z12 ∧
    (!(!v || cellN m.a n.a m.b n.c || cellN m.a n.b m.b n.d || cellN m.c n.a m.d n.c || cellN m.c n.b m.d n.d)) = (mtimesI m n).isSome := by
  subst h
  unfold mtimesI
  cases mvalid m && mvalid n
  · exact ⟨rfl, rfl⟩
  simp only [inner_eq, if_true]
  cases cellN m.a n.a m.b n.c <;> cases cellN m.a n.b m.b n.d <;> cases cellN m.c n.a m.d n.c <;> cases cellN m.c n.b m.d n.d <;> exact ⟨rfl, rfl⟩
set_option maxRecDepth 100000 in
set_option maxHeartbeats 4000000 in
theorem mtimes_any (m n : Mt) (w : World) :
    Calls Tryd.prog 36 #[mtv m, mtv n] w fun e w' => e = .returned (mtb (mtimesI m n)) ∧ Below w.heap.size w w' := by
  cases hm : mvalid m
  · go_enter Tryd.func36, Tryd.ntmps36
    go_wp2_with (first | (go_at_call 42; (with_reducible refine (mvalid_f m _ (by assumption)).mono ?_); rintro e w1 ⟨rfl, hb⟩; obtain ⟨hc, hf⟩ := bf hb (w.heap.size + 1 + 1 + 1 + 1) side_; have hs := hb.size; (try simp only [World.size_alloc, World.size_setCell, World.size_drew, World.heap_drewN] at hs); have hl : w.heap.size ≤ w1.heap.size ∧ w.heap.size < w1.heap.size ∧ w.heap.size + 1 < w1.heap.size ∧ w.heap.size + 1 + 1 < w1.heap.size ∧ w.heap.size + 1 + 1 + 1 < w1.heap.size := ⟨by omega, by omega, by omega, by omega, by omega⟩; have hB : Below w.heap.size w w1 := bstep (by exact below_) hb side_; have hs1 : SumIs w1 (w.heap.size + 1 + 1 + 1) _ := SumIs.below (by exact sum_) hb side_; have hcs1 := hs1.cell; have hfs1 := hs1.frozen; clear hs hb) | (go_at_call 41; (with_reducible refine (x_need (false) (w.heap.size + 1 + 1 + 1) _ (by exact sum_)).mono ?_); rintro e w1 ⟨rfl, hu, hx⟩; have hs1 := hu _ (by exact sum_); clear hu; obtain ⟨hc, hf⟩ := bfxL hx side_; obtain ⟨hc3, hf3⟩ := bfxU hx (w.heap.size + 1 + 1 + 1 + 1) side_; have hs2 := hx.size; (try simp only [World.size_alloc, World.size_setCell, World.size_drew, World.heap_drewN] at hs2); have hl : w.heap.size ≤ w1.heap.size ∧ w.heap.size < w1.heap.size ∧ w.heap.size + 1 < w1.heap.size ∧ w.heap.size + 1 + 1 < w1.heap.size ∧ w.heap.size + 1 + 1 + 1 < w1.heap.size := ⟨by omega, by omega, by omega, by omega, by omega⟩; have hcs1 := hs1.cell; have hfs1 := hs1.frozen; have hB : Below w.heap.size w w1 := (BelX.step (BelX.of (by exact below_)) hx side_).below side_; clear hs2 hx))
    have hA1 : MtAt w1 w.heap.size m := by refine ⟨?_, ?_, ?_, ?_, ?_, ?_, ?_, ?_, ?_, ?_, ?_, ?_⟩ <;> (simp [go_sem, *]; done)
    have hA2 : MtAt w1 (w.heap.size + 1) n := by refine ⟨?_, ?_, ?_, ?_, ?_, ?_, ?_, ?_, ?_, ?_, ?_, ?_⟩ <;> (simp [go_sem, *]; done)
    have hR : ∀ o, o < 12 → ∃ x, w1.cell? ⟨w.heap.size + 1 + 1, o, none⟩ = some x := by
      intro o ho
      refine ⟨.int .i64 0, ?_⟩
      rcases (show o = 0 ∨ o = 1 ∨ o = 2 ∨ o = 3 ∨ o = 4 ∨ o = 5 ∨ o = 6 ∨ o = 7 ∨ o = 8 ∨ o = 9 ∨ o = 10 ∨ o = 11 by omega) with rfl | rfl | rfl | rfl | rfl | rfl | rfl | rfl | rfl | rfl | rfl | rfl <;> simp [go_sem, *]
    have hF : ∀ o, o < 12 → w1.frozen? ⟨w.heap.size + 1 + 1, o, none⟩ = false := by
      intro o ho
      rcases (show o = 0 ∨ o = 1 ∨ o = 2 ∨ o = 3 ∨ o = 4 ∨ o = 5 ∨ o = 6 ∨ o = 7 ∨ o = 8 ∨ o = 9 ∨ o = 10 ∨ o = 11 by omega) with rfl | rfl | rfl | rfl | rfl | rfl | rfl | rfl | rfl | rfl | rfl | rfl <;> simp [go_sem, *]
    have hn3 : ¬ w.heap.size + 1 + 1 + 1 = w1.heap.size := by omega
    have hcz := Lib.hid hc
    have hfz := Lib.hid hf
    clear hc hf hc3 hf3
    have hS0 : ∀ x : Obj, (w1.alloc x).cell? ⟨w1.heap.size, 0, none⟩ = some (.pointer (some ⟨w.heap.size + 1 + 1 + 1, 0, none⟩)) → MS (fun w' => MtAt w' w.heap.size m) (fun w' => MtAt w' (w.heap.size + 1) n) w1.heap.size (w.heap.size + 1 + 1 + 1) (w.heap.size + 1 + 1) 12 (w1.alloc x).drew := by
      intro x hx
      have ho : ∀ (b i : Nat), b < w1.heap.size → (w1.alloc x).cell? ⟨b, i, none⟩ = w1.cell? ⟨b, i, none⟩ := fun b i hb => World.cell?_alloc_lt _ _ _ hb
      have hof : ∀ (b i : Nat), b < w1.heap.size → (w1.alloc x).frozen? ⟨b, i, none⟩ = w1.frozen? ⟨b, i, none⟩ := fun b i hb => frozenAllocNe _ _ _ _ (by intro e; injection e with e1; omega)
      refine ms_drew ?_ ?_ hx (fun o h => ?_) (fun o h => ?_)
      · exact MtAt.keep (w := w1) hA1 fun o => ho _ o (by omega)
      · exact MtAt.keep (w := w1) hA2 fun o => ho _ o (by omega)
      · rw [ho _ o (by omega)]; exact hR o h
      · rw [hof _ o (by omega)]; exact hF o h
    have hcs3 := Lib.hid hcs1
    clear hcs1 hfs1
    go_region_held3 (fun w2 => MS (fun w' => MtAt w' w.heap.size m) (fun w' => MtAt w' (w.heap.size + 1) n) w1.heap.size (w.heap.size + 1 + 1 + 1) (w.heap.size + 1 + 1) 12 w2 ∧ w2.cell? ⟨w1.heap.size, 0, none⟩ = some (.pointer (some ⟨w.heap.size + 1 + 1 + 1, 0, none⟩)) ∧ (∀ o, o < 12 → w2.cell? ⟨w.heap.size + 1 + 1, o, none⟩ = some (rc w2 (w.heap.size + 1 + 1) o)) ∧ (∀ o, o < 12 → w2.frozen? ⟨w.heap.size + 1 + 1, o, none⟩ = false)) ((repeat' (first | (with_reducible assumption) | (with_reducible refine ms_all ?_) | (with_reducible exact ms_base (by with_reducible assumption)) | (with_reducible refine ms_set (fun _ _ hc h => MtAt.keep h hc) (fun _ _ hc h => MtAt.keep h hc) ?_ (by omega) (by omega) (by omega)) | (with_reducible exact hS0 _ (by simp [go_sem, *])) | (with_reducible exact ms_keep (fun _ _ hc h => MtAt.keep h hc) (fun _ _ hc h => MtAt.keep h hc) (by with_reducible assumption) hzx (by omega) (by omega) (by omega) (by omega) side_)))) (first | (go_at_call 63; (with_reducible refine (x_mcell00 _ _ _ (w.heap.size + 1 + 1 + 1) m n _ (by exact sum_) side_ side_ side_ side_ (‹MS _ _ _ _ _ _ _ ∧ _›).1.p (‹MS _ _ _ _ _ _ _ ∧ _›).1.a (‹MS _ _ _ _ _ _ _ ∧ _›).1.b).mono ?_); rintro e w1 ⟨rfl, hu, hx⟩; have hs1 := hu _ (by exact sum_); clear hu; have hB : Below w.heap.size w w1 := (BelX.step (BelX.of (by exact below_)) hx side_).below (by omega); have hz := hx.size; (try simp only [World.size_alloc, World.size_setCell, World.size_drew, World.heap_drewN] at hz); have hzx := Lib.hid hx; clear hx) | (go_at_call 63; (with_reducible refine (x_mcell01 _ _ _ (w.heap.size + 1 + 1 + 1) m n _ (by exact sum_) side_ side_ side_ side_ (‹MS _ _ _ _ _ _ _ ∧ _›).1.p (‹MS _ _ _ _ _ _ _ ∧ _›).1.a (‹MS _ _ _ _ _ _ _ ∧ _›).1.b).mono ?_); rintro e w1 ⟨rfl, hu, hx⟩; have hs1 := hu _ (by exact sum_); clear hu; have hB : Below w.heap.size w w1 := (BelX.step (BelX.of (by exact below_)) hx side_).below (by omega); have hz := hx.size; (try simp only [World.size_alloc, World.size_setCell, World.size_drew, World.heap_drewN] at hz); have hzx := Lib.hid hx; clear hx) | (go_at_call 63; (with_reducible refine (x_mcell10 _ _ _ (w.heap.size + 1 + 1 + 1) m n _ (by exact sum_) side_ side_ side_ side_ (‹MS _ _ _ _ _ _ _ ∧ _›).1.p (‹MS _ _ _ _ _ _ _ ∧ _›).1.a (‹MS _ _ _ _ _ _ _ ∧ _›).1.b).mono ?_); rintro e w1 ⟨rfl, hu, hx⟩; have hs1 := hu _ (by exact sum_); clear hu; have hB : Below w.heap.size w w1 := (BelX.step (BelX.of (by exact below_)) hx side_).below (by omega); have hz := hx.size; (try simp only [World.size_alloc, World.size_setCell, World.size_drew, World.heap_drewN] at hz); have hzx := Lib.hid hx; clear hx) | (go_at_call 63; (with_reducible refine (x_mcell11 _ _ _ (w.heap.size + 1 + 1 + 1) m n _ (by exact sum_) side_ side_ side_ side_ (‹MS _ _ _ _ _ _ _ ∧ _›).1.p (‹MS _ _ _ _ _ _ _ ∧ _›).1.a (‹MS _ _ _ _ _ _ _ ∧ _›).1.b).mono ?_); rintro e w1 ⟨rfl, hu, hx⟩; have hs1 := hu _ (by exact sum_); clear hu; have hB : Below w.heap.size w w1 := (BelX.step (BelX.of (by exact below_)) hx side_).below (by omega); have hz := hx.size; (try simp only [World.size_alloc, World.size_setCell, World.size_drew, World.heap_drewN] at hz); have hzx := Lib.hid hx; clear hx) | (go_at_call 64; (with_reducible refine (got_mat ⟨_, _, _, _⟩ (w.heap.size + 1 + 1 + 1) _ (by exact sum_)).mono ?_); rintro e w1 ⟨b0, hsb, rfl, hb⟩; have hsb2 := Lib.hid hsb; clear hsb; have hq := SumIs.uniq hsb2.out (by exact sum_); clear hsb2; subst hq; have hx := BelX.of (bs := w.heap.size + 1 + 1 + 1) hb; clear hb; have hB : Below w.heap.size w w1 := (BelX.step (BelX.of (by exact below_)) hx side_).below (by omega); have hz := hx.size; (try simp only [World.size_alloc, World.size_setCell, World.size_drew, World.heap_drewN] at hz); have hzx := Lib.hid hx; clear hx; have hZc : Hid (∀ o, o < 12 → ∃ v, w1.cell? ⟨w.heap.size + 1 + 1, o, none⟩ = some v) := Lib.hid (by intro o ho; rw [(bfxL hzx.out side_).1 (w.heap.size + 1 + 1) o (by omega)]; exact ⟨_, (‹MS _ _ _ _ _ _ _ ∧ _›).1.c o ho⟩); have hZf : Hid (∀ o, o < 12 → w1.frozen? ⟨w.heap.size + 1 + 1, o, none⟩ = false) := Lib.hid (by intro o ho; rw [(bfxL hzx.out side_).2 (w.heap.size + 1 + 1) o (by omega)]; exact (‹MS _ _ _ _ _ _ _ ∧ _›).1.f o ho)))
    go_wp2
    have hZc2 : ∀ o, o < 12 → w1.cell? ⟨w.heap.size + 1 + 1, o, none⟩ = some (rc w1 (w.heap.size + 1 + 1) o) := fun o ho => by obtain ⟨v, hv⟩ := hZc.out o ho; exact rc_of hv
    have hZf2 := hZf.out
    repeat (rename MS _ _ _ _ _ _ _ ∧ _ => hMSx; clear hMSx)
    have hq := mtimes_eq (false) m n (by simp [*])
    refine bodyPost_ret (v := mtb (mtimesI m n)) (by simp only [mtb, ← hq.1, ← hq.2]; first | (simp [results, Tryd.results36, go_sem, *]; done) | (simp [results, Tryd.results36, go_sem, *]; simpa using hq.2)) rfl ⟨rfl, by exact below_⟩
  · go_enter Tryd.func36, Tryd.ntmps36
    go_wp2_with (first | (go_at_call 42; (with_reducible refine (mvalid_t m _ (by assumption)).mono ?_); rintro e w1 ⟨rfl, hb⟩; obtain ⟨hc, hf⟩ := bf hb (w.heap.size + 1 + 1 + 1 + 1) side_; have hs := hb.size; (try simp only [World.size_alloc, World.size_setCell, World.size_drew, World.heap_drewN] at hs); have hl : w.heap.size ≤ w1.heap.size ∧ w.heap.size < w1.heap.size ∧ w.heap.size + 1 < w1.heap.size ∧ w.heap.size + 1 + 1 < w1.heap.size ∧ w.heap.size + 1 + 1 + 1 < w1.heap.size := ⟨by omega, by omega, by omega, by omega, by omega⟩; have hB : Below w.heap.size w w1 := bstep (by exact below_) hb side_; have hs1 : SumIs w1 (w.heap.size + 1 + 1 + 1) _ := SumIs.below (by exact sum_) hb side_; have hcs1 := hs1.cell; have hfs1 := hs1.frozen; clear hs hb) | (go_at_call 42; (with_reducible refine (mvalid_any n _).mono ?_); rintro e w1 ⟨rfl, hb⟩; obtain ⟨hc, hf⟩ := bf hb (w.heap.size + 1 + 1 + 1 + 1) side_; have hs := hb.size; (try simp only [World.size_alloc, World.size_setCell, World.size_drew, World.heap_drewN] at hs); have hl : w.heap.size ≤ w1.heap.size ∧ w.heap.size < w1.heap.size ∧ w.heap.size + 1 < w1.heap.size ∧ w.heap.size + 1 + 1 < w1.heap.size ∧ w.heap.size + 1 + 1 + 1 < w1.heap.size := ⟨by omega, by omega, by omega, by omega, by omega⟩; have hB : Below w.heap.size w w1 := bstep (by exact below_) hb side_; have hs1 : SumIs w1 (w.heap.size + 1 + 1 + 1) _ := SumIs.below (by exact sum_) hb side_; have hcs1 := hs1.cell; have hfs1 := hs1.frozen; clear hs hb) | (go_at_call 41; (with_reducible refine (x_need (mvalid n) (w.heap.size + 1 + 1 + 1) _ (by exact sum_)).mono ?_); rintro e w1 ⟨rfl, hu, hx⟩; have hs1 := hu _ (by exact sum_); clear hu; obtain ⟨hc, hf⟩ := bfxL hx side_; obtain ⟨hc3, hf3⟩ := bfxU hx (w.heap.size + 1 + 1 + 1 + 1) side_; have hs2 := hx.size; (try simp only [World.size_alloc, World.size_setCell, World.size_drew, World.heap_drewN] at hs2); have hl : w.heap.size ≤ w1.heap.size ∧ w.heap.size < w1.heap.size ∧ w.heap.size + 1 < w1.heap.size ∧ w.heap.size + 1 + 1 < w1.heap.size ∧ w.heap.size + 1 + 1 + 1 < w1.heap.size := ⟨by omega, by omega, by omega, by omega, by omega⟩; have hcs1 := hs1.cell; have hfs1 := hs1.frozen; have hB : Below w.heap.size w w1 := (BelX.step (BelX.of (by exact below_)) hx side_).below side_; clear hs2 hx))
    have hA1 : MtAt w1 w.heap.size m := by refine ⟨?_, ?_, ?_, ?_, ?_, ?_, ?_, ?_, ?_, ?_, ?_, ?_⟩ <;> (simp [go_sem, *]; done)
    have hA2 : MtAt w1 (w.heap.size + 1) n := by refine ⟨?_, ?_, ?_, ?_, ?_, ?_, ?_, ?_, ?_, ?_, ?_, ?_⟩ <;> (simp [go_sem, *]; done)
    have hR : ∀ o, o < 12 → ∃ x, w1.cell? ⟨w.heap.size + 1 + 1, o, none⟩ = some x := by
      intro o ho
      refine ⟨.int .i64 0, ?_⟩
      rcases (show o = 0 ∨ o = 1 ∨ o = 2 ∨ o = 3 ∨ o = 4 ∨ o = 5 ∨ o = 6 ∨ o = 7 ∨ o = 8 ∨ o = 9 ∨ o = 10 ∨ o = 11 by omega) with rfl | rfl | rfl | rfl | rfl | rfl | rfl | rfl | rfl | rfl | rfl | rfl <;> simp [go_sem, *]
    have hF : ∀ o, o < 12 → w1.frozen? ⟨w.heap.size + 1 + 1, o, none⟩ = false := by
      intro o ho
      rcases (show o = 0 ∨ o = 1 ∨ o = 2 ∨ o = 3 ∨ o = 4 ∨ o = 5 ∨ o = 6 ∨ o = 7 ∨ o = 8 ∨ o = 9 ∨ o = 10 ∨ o = 11 by omega) with rfl | rfl | rfl | rfl | rfl | rfl | rfl | rfl | rfl | rfl | rfl | rfl <;> simp [go_sem, *]
    have hn3 : ¬ w.heap.size + 1 + 1 + 1 = w1.heap.size := by omega
    have hcz := Lib.hid hc
    have hfz := Lib.hid hf
    clear hc hf hc3 hf3
    have hS0 : ∀ x : Obj, (w1.alloc x).cell? ⟨w1.heap.size, 0, none⟩ = some (.pointer (some ⟨w.heap.size + 1 + 1 + 1, 0, none⟩)) → MS (fun w' => MtAt w' w.heap.size m) (fun w' => MtAt w' (w.heap.size + 1) n) w1.heap.size (w.heap.size + 1 + 1 + 1) (w.heap.size + 1 + 1) 12 (w1.alloc x).drew := by
      intro x hx
      have ho : ∀ (b i : Nat), b < w1.heap.size → (w1.alloc x).cell? ⟨b, i, none⟩ = w1.cell? ⟨b, i, none⟩ := fun b i hb => World.cell?_alloc_lt _ _ _ hb
      have hof : ∀ (b i : Nat), b < w1.heap.size → (w1.alloc x).frozen? ⟨b, i, none⟩ = w1.frozen? ⟨b, i, none⟩ := fun b i hb => frozenAllocNe _ _ _ _ (by intro e; injection e with e1; omega)
      refine ms_drew ?_ ?_ hx (fun o h => ?_) (fun o h => ?_)
      · exact MtAt.keep (w := w1) hA1 fun o => ho _ o (by omega)
      · exact MtAt.keep (w := w1) hA2 fun o => ho _ o (by omega)
      · rw [ho _ o (by omega)]; exact hR o h
      · rw [hof _ o (by omega)]; exact hF o h
    have hcs3 := Lib.hid hcs1
    clear hcs1 hfs1
    go_region_held3 (fun w2 => MS (fun w' => MtAt w' w.heap.size m) (fun w' => MtAt w' (w.heap.size + 1) n) w1.heap.size (w.heap.size + 1 + 1 + 1) (w.heap.size + 1 + 1) 12 w2 ∧ w2.cell? ⟨w1.heap.size, 0, none⟩ = some (.pointer (some ⟨w.heap.size + 1 + 1 + 1, 0, none⟩)) ∧ (∀ o, o < 12 → w2.cell? ⟨w.heap.size + 1 + 1, o, none⟩ = some (rc w2 (w.heap.size + 1 + 1) o)) ∧ (∀ o, o < 12 → w2.frozen? ⟨w.heap.size + 1 + 1, o, none⟩ = false)) ((repeat' (first | (with_reducible assumption) | (with_reducible refine ms_all ?_) | (with_reducible exact ms_base (by with_reducible assumption)) | (with_reducible refine ms_set (fun _ _ hc h => MtAt.keep h hc) (fun _ _ hc h => MtAt.keep h hc) ?_ (by omega) (by omega) (by omega)) | (with_reducible exact hS0 _ (by simp [go_sem, *])) | (with_reducible exact ms_keep (fun _ _ hc h => MtAt.keep h hc) (fun _ _ hc h => MtAt.keep h hc) (by with_reducible assumption) hzx (by omega) (by omega) (by omega) (by omega) side_)))) (first | (go_at_call 63; (with_reducible refine (x_mcell00 _ _ _ (w.heap.size + 1 + 1 + 1) m n _ (by exact sum_) side_ side_ side_ side_ (‹MS _ _ _ _ _ _ _ ∧ _›).1.p (‹MS _ _ _ _ _ _ _ ∧ _›).1.a (‹MS _ _ _ _ _ _ _ ∧ _›).1.b).mono ?_); rintro e w1 ⟨rfl, hu, hx⟩; have hs1 := hu _ (by exact sum_); clear hu; have hB : Below w.heap.size w w1 := (BelX.step (BelX.of (by exact below_)) hx side_).below (by omega); have hz := hx.size; (try simp only [World.size_alloc, World.size_setCell, World.size_drew, World.heap_drewN] at hz); have hzx := Lib.hid hx; clear hx) | (go_at_call 63; (with_reducible refine (x_mcell01 _ _ _ (w.heap.size + 1 + 1 + 1) m n _ (by exact sum_) side_ side_ side_ side_ (‹MS _ _ _ _ _ _ _ ∧ _›).1.p (‹MS _ _ _ _ _ _ _ ∧ _›).1.a (‹MS _ _ _ _ _ _ _ ∧ _›).1.b).mono ?_); rintro e w1 ⟨rfl, hu, hx⟩; have hs1 := hu _ (by exact sum_); clear hu; have hB : Below w.heap.size w w1 := (BelX.step (BelX.of (by exact below_)) hx side_).below (by omega); have hz := hx.size; (try simp only [World.size_alloc, World.size_setCell, World.size_drew, World.heap_drewN] at hz); have hzx := Lib.hid hx; clear hx) | (go_at_call 63; (with_reducible refine (x_mcell10 _ _ _ (w.heap.size + 1 + 1 + 1) m n _ (by exact sum_) side_ side_ side_ side_ (‹MS _ _ _ _ _ _ _ ∧ _›).1.p (‹MS _ _ _ _ _ _ _ ∧ _›).1.a (‹MS _ _ _ _ _ _ _ ∧ _›).1.b).mono ?_); rintro e w1 ⟨rfl, hu, hx⟩; have hs1 := hu _ (by exact sum_); clear hu; have hB : Below w.heap.size w w1 := (BelX.step (BelX.of (by exact below_)) hx side_).below (by omega); have hz := hx.size; (try simp only [World.size_alloc, World.size_setCell, World.size_drew, World.heap_drewN] at hz); have hzx := Lib.hid hx; clear hx) | (go_at_call 63; (with_reducible refine (x_mcell11 _ _ _ (w.heap.size + 1 + 1 + 1) m n _ (by exact sum_) side_ side_ side_ side_ (‹MS _ _ _ _ _ _ _ ∧ _›).1.p (‹MS _ _ _ _ _ _ _ ∧ _›).1.a (‹MS _ _ _ _ _ _ _ ∧ _›).1.b).mono ?_); rintro e w1 ⟨rfl, hu, hx⟩; have hs1 := hu _ (by exact sum_); clear hu; have hB : Below w.heap.size w w1 := (BelX.step (BelX.of (by exact below_)) hx side_).below (by omega); have hz := hx.size; (try simp only [World.size_alloc, World.size_setCell, World.size_drew, World.heap_drewN] at hz); have hzx := Lib.hid hx; clear hx) | (go_at_call 64; (with_reducible refine (got_mat ⟨_, _, _, _⟩ (w.heap.size + 1 + 1 + 1) _ (by exact sum_)).mono ?_); rintro e w1 ⟨b0, hsb, rfl, hb⟩; have hsb2 := Lib.hid hsb; clear hsb; have hq := SumIs.uniq hsb2.out (by exact sum_); clear hsb2; subst hq; have hx := BelX.of (bs := w.heap.size + 1 + 1 + 1) hb; clear hb; have hB : Below w.heap.size w w1 := (BelX.step (BelX.of (by exact below_)) hx side_).below (by omega); have hz := hx.size; (try simp only [World.size_alloc, World.size_setCell, World.size_drew, World.heap_drewN] at hz); have hzx := Lib.hid hx; clear hx; have hZc : Hid (∀ o, o < 12 → ∃ v, w1.cell? ⟨w.heap.size + 1 + 1, o, none⟩ = some v) := Lib.hid (by intro o ho; rw [(bfxL hzx.out side_).1 (w.heap.size + 1 + 1) o (by omega)]; exact ⟨_, (‹MS _ _ _ _ _ _ _ ∧ _›).1.c o ho⟩); have hZf : Hid (∀ o, o < 12 → w1.frozen? ⟨w.heap.size + 1 + 1, o, none⟩ = false) := Lib.hid (by intro o ho; rw [(bfxL hzx.out side_).2 (w.heap.size + 1 + 1) o (by omega)]; exact (‹MS _ _ _ _ _ _ _ ∧ _›).1.f o ho)))
    go_wp2
    have hZc2 : ∀ o, o < 12 → w1.cell? ⟨w.heap.size + 1 + 1, o, none⟩ = some (rc w1 (w.heap.size + 1 + 1) o) := fun o ho => by obtain ⟨v, hv⟩ := hZc.out o ho; exact rc_of hv
    have hZf2 := hZf.out
    repeat (rename MS _ _ _ _ _ _ _ ∧ _ => hMSx; clear hMSx)
    have hq := mtimes_eq (mvalid n) m n (by simp [*])
    refine bodyPost_ret (v := mtb (mtimesI m n)) (by simp only [mtb, ← hq.1, ← hq.2]; first | (simp [results, Tryd.results36, go_sem, *]; done) | (simp [results, Tryd.results36, go_sem, *]; simpa using hq.2)) rfl ⟨rfl, by exact below_⟩
end Go.Proofs.YtiagnnmnaakmoaaDoor
