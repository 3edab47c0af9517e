/-
  The walks of the functions on matrices of elements: what a reckoning gives; adjoints.
-/
import Derived.Test.YtiagnnmnaakmoaaDoorMt
namespace Go.Proofs.YtiagnnmnaakmoaaDoor
set_option linter.unusedSimpArgs false
set_option linter.unusedVariables false
open Go.RowKit
attribute [local go_sem ↓] Go.wp_at_zero Go.wp_at_succ
abbrev Z6 : Jn := ⟨⟨0, 0, 0⟩, ⟨0, 0, 0⟩⟩
abbrev Z12 : Mt := ⟨⟨0, 0, 0⟩, ⟨0, 0, 0⟩, ⟨0, 0, 0⟩, ⟨0, 0, 0⟩⟩
theorem m4_eq (a b c d : Option Fr) : gotF (a.isNone || b.isNone || c.isNone || d.isNone) Z12 ⟨a.getD ⟨0, 0, 0⟩, b.getD ⟨0, 0, 0⟩, c.getD ⟨0, 0, 0⟩, d.getD ⟨0, 0, 0⟩⟩ = (m4 a b c d).getD Z12 ∧
    (a.isSome && b.isSome && c.isSome && d.isSome) = (m4 a b c d).isSome := by
  cases a <;> cases b <;> cases c <;> cases d <;> exact ⟨rfl, rfl⟩
set_option maxRecDepth 100000 in
set_option maxHeartbeats 400000 in
theorem got_jones (a : Jn) (bs : Nat) (w : World) (hs : SumEx w bs) :
    Calls Tryd.prog 47 #[.pointer (some ⟨bs, 0, none⟩), jnv a] w fun e w' => ∃ b, SumIs w bs b ∧ e = .returned (.tuple #[jnv (gotF b Z6 a), .bool (!b)]) ∧ Below w.heap.size w w' := by
  obtain ⟨bad, hs⟩ := hs
  suffices Calls Tryd.prog 47 #[.pointer (some ⟨bs, 0, none⟩), jnv a] w fun e w' => e = .returned (.tuple #[jnv (gotF bad Z6 a), .bool (!bad)]) ∧ Below w.heap.size w w' from
    this.mono fun _ _ ⟨h1, h2⟩ => ⟨bad, hs, h1, h2⟩
  have hlt := hs.lt
  have hcs := hs.cell
  have hne : w.heap.size ≠ bs ∧ w.heap.size + 1 ≠ bs ∧ w.heap.size + 1 + 1 ≠ bs := ⟨by omega, by omega, by omega⟩
  cases bad
  · go_enter Tryd.func47, Tryd.ntmps47
    go_wp2
    exact bodyPost_ret (v := .tuple #[jnv a, .bool true]) (by simp [results, Tryd.results47, go_sem, *]) rfl ⟨rfl, by exact below_⟩
  · go_enter Tryd.func47, Tryd.ntmps47
    go_wp2
    exact bodyPost_ret (v := .tuple #[jnv Z6, .bool false]) (by simp [results, Tryd.results47, go_sem, *]) rfl ⟨rfl, by exact below_⟩
set_option maxRecDepth 100000 in
set_option maxHeartbeats 400000 in
theorem got_mat (a : Mt) (bs : Nat) (w : World) (hs : SumEx w bs) :
    Calls Tryd.prog 64 #[.pointer (some ⟨bs, 0, none⟩), mtv a] w fun e w' => ∃ b, SumIs w bs b ∧ e = .returned (.tuple #[mtv (gotF b Z12 a), .bool (!b)]) ∧ Below w.heap.size w w' := by
  obtain ⟨bad, hs⟩ := hs
  suffices Calls Tryd.prog 64 #[.pointer (some ⟨bs, 0, none⟩), mtv a] w fun e w' => e = .returned (.tuple #[mtv (gotF bad Z12 a), .bool (!bad)]) ∧ Below w.heap.size w w' from
    this.mono fun _ _ ⟨h1, h2⟩ => ⟨bad, hs, h1, h2⟩
  have hlt := hs.lt
  have hcs := hs.cell
  have hne : w.heap.size ≠ bs ∧ w.heap.size + 1 ≠ bs ∧ w.heap.size + 1 + 1 ≠ bs := ⟨by omega, by omega, by omega⟩
  cases bad
  · go_enter Tryd.func64, Tryd.ntmps64
    go_wp2
    exact bodyPost_ret (v := .tuple #[mtv a, .bool true]) (by simp [results, Tryd.results64, go_sem, *]) rfl ⟨rfl, by exact below_⟩
  · go_enter Tryd.func64, Tryd.ntmps64
    go_wp2
    exact bodyPost_ret (v := .tuple #[mtv Z12, .bool false]) (by simp [results, Tryd.results64, go_sem, *]) rfl ⟨rfl, by exact below_⟩
set_option maxRecDepth 100000 in
set_option maxHeartbeats 1000000 in
theorem madj_any (m : Mt) (w : World) :
    Calls Tryd.prog 68 #[mtv m] w fun e w' => e = .returned (mtb (madjI m)) ∧ Below w.heap.size w w' := by
  go_enter Tryd.func68, Tryd.ntmps68
  go_wp2
  go_region_held3 (fun w' => w'.cell? ⟨w.heap.size, 0, none⟩ = some (.int .i64 (m.a.re)) ∧ w'.cell? ⟨w.heap.size, 1, none⟩ = some (.int .i64 (m.a.im)) ∧ w'.cell? ⟨w.heap.size, 2, none⟩ = some (.int .i64 (m.a.den)) ∧ w'.cell? ⟨w.heap.size, 3, none⟩ = some (.int .i64 (m.b.re)) ∧ w'.cell? ⟨w.heap.size, 4, none⟩ = some (.int .i64 (m.b.im)) ∧ w'.cell? ⟨w.heap.size, 5, none⟩ = some (.int .i64 (m.b.den)) ∧ w'.cell? ⟨w.heap.size, 6, none⟩ = some (.int .i64 (m.c.re)) ∧ w'.cell? ⟨w.heap.size, 7, none⟩ = some (.int .i64 (m.c.im)) ∧ w'.cell? ⟨w.heap.size, 8, none⟩ = some (.int .i64 (m.c.den)) ∧ w'.cell? ⟨w.heap.size, 9, none⟩ = some (.int .i64 (m.d.re)) ∧ w'.cell? ⟨w.heap.size, 10, none⟩ = some (.int .i64 (m.d.im)) ∧ w'.cell? ⟨w.heap.size, 11, none⟩ = some (.int .i64 (m.d.den))) ((first | go_keep | (simp [go_sem, *]; done))) (first | (go_at_call 83; (with_reducible refine (x_mirror m.a (w.heap.size + 1 + 1) _ (by exact sum_)).mono ?_); rintro e w1 ⟨rfl, hu, hx⟩; have hs1 := hu _ (by exact sum_); clear hu; obtain ⟨hc, hf⟩ := bfxL hx side_; obtain ⟨hc3, hf3⟩ := bfxU hx (w.heap.size + 1 + 1 + 1) side_; have hs2 := hx.size; (try simp only [World.size_alloc, World.size_setCell, World.size_drew, World.heap_drewN] at hs2); have hl : w.heap.size ≤ w1.heap.size ∧ w.heap.size < w1.heap.size ∧ w.heap.size + 1 < w1.heap.size ∧ w.heap.size + 1 + 1 < w1.heap.size := ⟨by omega, by omega, by omega, by omega⟩; have hcs1 := hs1.cell; have hfs1 := hs1.frozen; have hB : Below w.heap.size w w1 := (BelX.step (BelX.of (by exact below_)) hx side_).below side_; clear hs2 hx) | (go_at_call 83; (with_reducible refine (x_mirror m.c (w.heap.size + 1 + 1) _ (by exact sum_)).mono ?_); rintro e w1 ⟨rfl, hu, hx⟩; have hs1 := hu _ (by exact sum_); clear hu; obtain ⟨hc, hf⟩ := bfxL hx side_; obtain ⟨hc3, hf3⟩ := bfxU hx (w.heap.size + 1 + 1 + 1) side_; have hs2 := hx.size; (try simp only [World.size_alloc, World.size_setCell, World.size_drew, World.heap_drewN] at hs2); have hl : w.heap.size ≤ w1.heap.size ∧ w.heap.size < w1.heap.size ∧ w.heap.size + 1 < w1.heap.size ∧ w.heap.size + 1 + 1 < w1.heap.size := ⟨by omega, by omega, by omega, by omega⟩; have hcs1 := hs1.cell; have hfs1 := hs1.frozen; have hB : Below w.heap.size w w1 := (BelX.step (BelX.of (by exact below_)) hx side_).below side_; clear hs2 hx) | (go_at_call 83; (with_reducible refine (x_mirror m.b (w.heap.size + 1 + 1) _ (by exact sum_)).mono ?_); rintro e w1 ⟨rfl, hu, hx⟩; have hs1 := hu _ (by exact sum_); clear hu; obtain ⟨hc, hf⟩ := bfxL hx side_; obtain ⟨hc3, hf3⟩ := bfxU hx (w.heap.size + 1 + 1 + 1) side_; have hs2 := hx.size; (try simp only [World.size_alloc, World.size_setCell, World.size_drew, World.heap_drewN] at hs2); have hl : w.heap.size ≤ w1.heap.size ∧ w.heap.size < w1.heap.size ∧ w.heap.size + 1 < w1.heap.size ∧ w.heap.size + 1 + 1 < w1.heap.size := ⟨by omega, by omega, by omega, by omega⟩; have hcs1 := hs1.cell; have hfs1 := hs1.frozen; have hB : Below w.heap.size w w1 := (BelX.step (BelX.of (by exact below_)) hx side_).below side_; clear hs2 hx) | (go_at_call 83; (with_reducible refine (x_mirror m.d (w.heap.size + 1 + 1) _ (by exact sum_)).mono ?_); rintro e w1 ⟨rfl, hu, hx⟩; have hs1 := hu _ (by exact sum_); clear hu; obtain ⟨hc, hf⟩ := bfxL hx side_; obtain ⟨hc3, hf3⟩ := bfxU hx (w.heap.size + 1 + 1 + 1) side_; have hs2 := hx.size; (try simp only [World.size_alloc, World.size_setCell, World.size_drew, World.heap_drewN] at hs2); have hl : w.heap.size ≤ w1.heap.size ∧ w.heap.size < w1.heap.size ∧ w.heap.size + 1 < w1.heap.size ∧ w.heap.size + 1 + 1 < w1.heap.size := ⟨by omega, by omega, by omega, by omega⟩; have hcs1 := hs1.cell; have hfs1 := hs1.frozen; have hB : Below w.heap.size w w1 := (BelX.step (BelX.of (by exact below_)) hx side_).below side_; clear hs2 hx) | (go_at_call 64; (with_reducible refine (got_mat ⟨_, _, _, _⟩ (w.heap.size + 1 + 1) _ (by exact sum_)).mono ?_); rintro e w1 ⟨b0, hsb, rfl, hb⟩; have hsb2 := Lib.hid hsb; clear hsb; have hq := SumIs.uniq hsb2.out (by exact sum_); clear hsb2; subst hq; obtain ⟨hc, hf⟩ := bf hb (w.heap.size + 1 + 1 + 1) side_; have hs := hb.size; (try simp only [World.size_alloc, World.size_setCell, World.size_drew, World.heap_drewN] at hs); have hl : w.heap.size ≤ w1.heap.size ∧ w.heap.size < w1.heap.size ∧ w.heap.size + 1 < w1.heap.size ∧ w.heap.size + 1 + 1 < w1.heap.size := ⟨by omega, by omega, by omega, by omega⟩; have hB : Below w.heap.size w w1 := bstep (by exact below_) hb side_; clear hs hb))
  go_wp2
  refine bodyPost_ret (v := mtb (madjI m)) (by simp only [mtb, madjI, ← (m4_eq (mirrorI m.a) (mirrorI m.c) (mirrorI m.b) (mirrorI m.d)).1, ← (m4_eq (mirrorI m.a) (mirrorI m.c) (mirrorI m.b) (mirrorI m.d)).2]; simp [results, Tryd.results68, go_sem, *]) rfl ⟨rfl, by exact below_⟩
end Go.Proofs.YtiagnnmnaakmoaaDoor
