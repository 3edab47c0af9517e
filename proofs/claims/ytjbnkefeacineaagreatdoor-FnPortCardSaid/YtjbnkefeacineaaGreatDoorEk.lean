/-
  The walk of the program's sum of two vectors.
-/
import Derived.Test.YtjbnkefeacineaaGreatDoorJf
namespace Go.Proofs.YtjbnkefeacineaaGreatDoor
set_option linter.unusedSimpArgs false
set_option linter.unusedVariables false
open Go.RowKit
attribute [local go_sem ↓] Go.wp_at_zero Go.wp_at_succ
set_option maxRecDepth 100000 in
set_option maxHeartbeats 4000000 in
theorem jadd_prt (a c : Jn) (x y : Fr) (m n : Bool) (w : World) (HX : Hid ((addI a.x c.x).getD Z3 = x ∧ (addI a.x c.x).isNone = m)) (HY : Hid ((addI a.y c.y).getD Z3 = y ∧ (addI a.y c.y).isNone = n)) :
    Calls Tryz.prog 31 #[jnv a, jnv c] w fun e w' => e = .returned (.tuple #[jnv (gotF (m || n) Z6 ⟨x, y⟩), .bool (!(m || n))]) ∧ Below w.heap.size w w' := by
  obtain ⟨bl, hbl⟩ : ∃ l, l = [(w.heap.size, jc a, 26), (w.heap.size + 1, jc c, 26), (w.heap.size + 1 + 1, jc Z6, 26)] := ⟨_, rfl⟩
  obtain ⟨W0, hW0, hQ0⟩ : ∃ W, W = (((w.alloc (.cells #[.int .i64 a.x.re, .int .i64 a.x.im, .int .i64 a.x.den, .int .i64 a.y.re, .int .i64 a.y.im, .int .i64 a.y.den] 26)).alloc (.cells #[.int .i64 c.x.re, .int .i64 c.x.im, .int .i64 c.x.den, .int .i64 c.y.re, .int .i64 c.y.im, .int .i64 c.y.den] 26)).alloc (.cells #[.int .i64 0, .int .i64 0, .int .i64 0, .int .i64 0, .int .i64 0, .int .i64 0] 26)).alloc (.cells #[.bool false] 70) ∧ W.heap.size = w.heap.size + 1 + 1 + 1 + 1 ∧ QS w (w.heap.size + 1 + 1 + 1) bl false W := by
    refine ⟨_, rfl, by simp, by exact below_, SumIs.new' (by simp), ?_, by omega⟩
    rw [hbl]
    intro q hq
    have h1 := BW.one w (jc a) 26
    have h2 := h1.push (Below.refl _ _) (jc c) 26
    simp only [World.size_alloc] at h2
    have h3 := h2.push (Below.refl _ _) (jc Z6) 26
    simp only [World.size_alloc] at h3
    have h4 := h3.step ((Below.refl _ _).alloc (Nat.le_refl _) (.cells #[.bool false] 70))
    simp only [List.mem_cons, List.not_mem_nil, or_false] at hq
    rcases hq with rfl | rfl | rfl
    · exact ⟨Nat.le_refl _, by simp only; omega, h4.at (by simp)⟩
    · exact ⟨by simp only; omega, by simp only; omega, h4.at (by simp)⟩
    · exact ⟨by simp only; omega, by simp only; omega, h4.at (by simp)⟩
  have hz0 := hQ0.1
  have hQ3 := hQ0.2
  have hR : ∀ W bad, QS w (w.heap.size + 1 + 1 + 1) bl bad W → Blk W (w.heap.size + 1 + 1) (jc Z6) 26 := fun W bad h => h.at (by rw [hbl]; simp)
  have HK := Lib.hid hR
  have HBL := Lib.hid hbl
  clear hR hbl hQ0 hz0
  go_enter Tryz.func31, Tryz.ntmps31
  go_upto_region 2 with fail
  rw [← hW0]
  clear hW0
  have HSUB : Hid (∀ W bad, QS w (w.heap.size + 1 + 1 + 1) bl bad W → QSE w (w.heap.size + 1 + 1 + 1) [(w.heap.size, jc a, 26), (w.heap.size + 1, jc c, 26)] W) := Lib.hid (fun W bad h => ⟨_, h.sub (by intro q hq; rw [HBL.out]; simp only [List.mem_cons, List.not_mem_nil, or_false] at hq; rcases hq with rfl | rfl <;> simp)⟩)
  have HS : Hid (∀ W, QSE w (w.heap.size + 1 + 1 + 1) [(w.heap.size, jc a, 26), (w.heap.size + 1, jc c, 26)] W → (fun w' => w'.cell? ⟨w.heap.size, 0, none⟩ = some (.int .i64 a.x.re) ∧ w'.cell? ⟨w.heap.size, 1, none⟩ = some (.int .i64 a.x.im) ∧ w'.cell? ⟨w.heap.size, 2, none⟩ = some (.int .i64 a.x.den) ∧ w'.cell? ⟨w.heap.size, 3, none⟩ = some (.int .i64 a.y.re) ∧ w'.cell? ⟨w.heap.size, 4, none⟩ = some (.int .i64 a.y.im) ∧ w'.cell? ⟨w.heap.size, 5, none⟩ = some (.int .i64 a.y.den) ∧ w'.cell? ⟨w.heap.size + 1, 0, none⟩ = some (.int .i64 c.x.re) ∧ w'.cell? ⟨w.heap.size + 1, 1, none⟩ = some (.int .i64 c.x.im) ∧ w'.cell? ⟨w.heap.size + 1, 2, none⟩ = some (.int .i64 c.x.den) ∧ w'.cell? ⟨w.heap.size + 1, 3, none⟩ = some (.int .i64 c.y.re) ∧ w'.cell? ⟨w.heap.size + 1, 4, none⟩ = some (.int .i64 c.y.im) ∧ w'.cell? ⟨w.heap.size + 1, 5, none⟩ = some (.int .i64 c.y.den)) W) := Lib.hid (fun W hE => by
    obtain ⟨bad, h⟩ := hE
    obtain ⟨c00, c01, c02, c03, c04, c05⟩ := (blk_j (a := a) (h.at (b := w.heap.size) (cs := jc a) (ty := 26) (by simp))).1
    obtain ⟨c10, c11, c12, c13, c14, c15⟩ := (blk_j (a := c) (h.at (b := w.heap.size + 1) (cs := jc c) (ty := 26) (by simp))).1
    exact ⟨c00, c01, c02, c03, c04, c05, c10, c11, c12, c13, c14, c15⟩)
  have HN : Hid (∀ q ∈ ([(w.heap.size, jc a, 26), (w.heap.size + 1, jc c, 26)] : List (Nat × Array Value × TypeId)), q.1 ≠ w.heap.size + 1 + 1) := Lib.hid (by intro q hq; simp only [List.mem_cons, List.not_mem_nil, or_false] at hq; rcases hq with rfl | rfl <;> (first | (simp only; omega) | omega | (simp; omega)))
  go_region_held3 (fun w' => w'.cell? ⟨w.heap.size, 0, none⟩ = some (.int .i64 a.x.re) ∧ w'.cell? ⟨w.heap.size, 1, none⟩ = some (.int .i64 a.x.im) ∧ w'.cell? ⟨w.heap.size, 2, none⟩ = some (.int .i64 a.x.den) ∧ w'.cell? ⟨w.heap.size, 3, none⟩ = some (.int .i64 a.y.re) ∧ w'.cell? ⟨w.heap.size, 4, none⟩ = some (.int .i64 a.y.im) ∧ w'.cell? ⟨w.heap.size, 5, none⟩ = some (.int .i64 a.y.den) ∧ w'.cell? ⟨w.heap.size + 1, 0, none⟩ = some (.int .i64 c.x.re) ∧ w'.cell? ⟨w.heap.size + 1, 1, none⟩ = some (.int .i64 c.x.im) ∧ w'.cell? ⟨w.heap.size + 1, 2, none⟩ = some (.int .i64 c.x.den) ∧ w'.cell? ⟨w.heap.size + 1, 3, none⟩ = some (.int .i64 c.y.re) ∧ w'.cell? ⟨w.heap.size + 1, 4, none⟩ = some (.int .i64 c.y.im) ∧ w'.cell? ⟨w.heap.size + 1, 5, none⟩ = some (.int .i64 c.y.den)) (((refine HS.out _ ?_); (repeat' (first | (with_reducible assumption) | (with_reducible exact HSUB.out _ _ (by with_reducible assumption)) | (with_reducible apply QSE.alloc) | (with_reducible apply QSE.drewN) | (with_reducible apply QSE.drew) | ((with_reducible refine QSE.far ?_ ?_ ?_ ?_ _) <;> (first | (with_reducible exact HN.out) | (simp; done) | omega | (simp; omega) | skip)))))) (first | (go_at_call 56; (with_reducible refine (qs_add a.x c.x x m HX _ (by (repeat' (first | (with_reducible assumption) | (with_reducible apply QS.alloc) | (with_reducible apply QS.drewN) | (with_reducible apply QS.drew))))).mono ?_); rintro e wd ⟨rfl, hD⟩; have hBd := hD.B; have hld := hD.s.lt) | (go_at_call 56; (with_reducible refine (qs_add a.y c.y y n HY _ (by (repeat' (first | (with_reducible assumption) | (with_reducible apply QS.alloc) | (with_reducible apply QS.drewN) | (with_reducible apply QS.drew))))).mono ?_); rintro e wd ⟨rfl, hD⟩; have hBd := hD.B; have hld := hD.s.lt) | (go_at_call 69; (with_reducible refine (qs_gotJ ⟨_, _⟩ _ (by (repeat' (first | (with_reducible assumption) | (with_reducible apply QS.alloc) | (with_reducible apply QS.drewN) | (with_reducible apply QS.drew))))).mono ?_); rintro e wd ⟨rfl, hD⟩; have hBd := hD.B; have hld := hD.s.lt; obtain ⟨⟨r0, r1, r2, r3, r4, r5⟩, r6, r7, r8, r9, r10, r11⟩ := blk_j (HK.out _ _ hD)))
  all_goals (cases m <;> cases n <;> (go_wp2; refine bodyPost_ret (v := _) (by simp [results, Tryz.results31, gotF, go_sem, *]) rfl ⟨rfl, by exact below_⟩))
theorem jadd_pm (a c S : Jn) (r : Bool) (w : World) (e : Hid ((jaddI a c).getD Z6 = S ∧ (jaddI a c).isSome = r)) :
    Calls Tryz.prog 31 #[jnv a, jnv c] w fun e w' => e = .returned (.tuple #[jnv S, .bool r]) ∧ Below w.heap.size w w' := by
  have h := jadd_prt a c _ _ _ _ w (Lib.hid ⟨rfl, rfl⟩) (Lib.hid ⟨rfl, rfl⟩)
  rw [← e.out.1, ← e.out.2]
  unfold jaddI
  cases h1 : addI a.x c.x <;> cases h2 : addI a.y c.y <;> simpa [h1, h2, gotF, Z6, Z3] using h
end Go.Proofs.YtjbnkefeacineaaGreatDoor
