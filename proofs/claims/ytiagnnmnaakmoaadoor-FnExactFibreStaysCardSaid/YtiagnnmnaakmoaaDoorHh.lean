/-
  The walk of the statement that compares FibreStays with the reference's: it returns true, for every list and every vector.
-/
import Derived.Test.YtiagnnmnaakmoaaDoorHg
namespace Go.Proofs.YtiagnnmnaakmoaaDoor
set_option linter.unusedSimpArgs false
set_option linter.unusedVariables false
open Go.RowKit
attribute [local go_sem ↓] Go.wp_at_zero Go.wp_at_succ
set_option maxRecDepth 100000 in
set_option maxHeartbeats 16000000 in
theorem fnExactFibreStays_walk (A : Option Addr) (len cap : Nat) (xs : List Sec) (v : Jn) (w : World) (hS0 : Secs A len cap xs w) (hGO : GO w) (hGZ : GZ w) (hGT : GT w) (hGS : GS w) :
    Calls Tryd.prog 3 #[.slice A len cap, jnv v] w fun e w' => e = .returned (.bool true) ∧ Below w.heap.size w w' := by
  have hcap := hS0.2.2.1
  have hlc := hS0.2.1
  obtain ⟨bv, hbv⟩ : ∃ bv, fibStaysI xs v = bv := ⟨_, rfl⟩
  have HC := Lib.hid hbv
  clear hbv
  by_cases hbig : 1048576 < len
  · go_enter Tryd.func3, Tryd.ntmps3
    go_wp2_with (go_at_call 7; (with_reducible refine (sz_far A len cap _ hbig (by omega)).mono ?_); rintro e w1 ⟨rfl, hb⟩; have hB1 : Below w.heap.size w w1 := bstep (by exact below_) hb side_; clear hb)
    go_ret
    exact ⟨rfl, by exact below_⟩
  have hlen : len ≤ 1048576 := by omega
  clear hbig
  go_enter Tryd.func3, Tryd.ntmps3
  go_wp2_with (go_at_call 7; (with_reducible refine (sz_any A len cap 1048576 _ (by omega) (by omega)).mono ?_); rintro e w1 ⟨rfl, hb⟩; refine Hid.out ?_)
  refine Lib.hid ?_
  have hB0 : Below w.heap.size w w1 := bstep (by exact below_) hb (by simp)
  have hJ0 : JnAt w1 w.heap.size v := (JnAt.new w v 26).below hb (by simp)
  have hz0 : w.heap.size < w1.heap.size := hJ0.lt
  clear hb
  go_wp2
  go_region_held3 (fun w' => w'.cell? ⟨w.heap.size, 0, none⟩ = some (.int .i64 v.x.re) ∧ w'.cell? ⟨w.heap.size, 1, none⟩ = some (.int .i64 v.x.im) ∧ w'.cell? ⟨w.heap.size, 2, none⟩ = some (.int .i64 v.x.den) ∧ w'.cell? ⟨w.heap.size, 3, none⟩ = some (.int .i64 v.y.re) ∧ w'.cell? ⟨w.heap.size, 4, none⟩ = some (.int .i64 v.y.im) ∧ w'.cell? ⟨w.heap.size, 5, none⟩ = some (.int .i64 v.y.den)) ((show JnAt _ w.heap.size v; (repeat' (first | (with_reducible assumption) | (with_reducible exact JnAt.new _ _ _) | (with_reducible apply JnAt.alloc) | (with_reducible apply JnAt.drewN) | (with_reducible apply JnAt.drew) | (with_reducible refine JnAt.far ?_ ?_ _) | omega)))) (first | (go_at_call 9; (with_reducible refine (toSecs_any A len cap xs _ (hS0.below (by exact below_)) hlen).mono ?_); rintro e wa ⟨va, rfl, Oa, hb⟩; obtain ⟨A1, c1, rfl, Sa⟩ := Oa.secs; have hB1 : Below w.heap.size w wa := bstep (by exact below_) hb side_; have hJ : JnAt wa w.heap.size v := (by refine JnAt.below (w := _) ?_ hb ?_; (repeat' (first | (with_reducible assumption) | (with_reducible exact JnAt.new _ _ _) | (with_reducible apply JnAt.alloc) | (with_reducible apply JnAt.drewN) | (with_reducible apply JnAt.drew) | (with_reducible refine JnAt.far ?_ ?_ _) | omega)); first | done | omega | (simp; done) | (simp; omega)); have hJl : w.heap.size < wa.heap.size := hJ.lt; clear hb Oa) | (go_at_call 10; (with_reducible refine (toJones_any v _).mono ?_); rintro e wj ⟨rfl, hb⟩; have hB1 : Below w.heap.size w wj := bstep (by exact below_) hb side_; have hJ : JnAt wj w.heap.size v := (by refine JnAt.below (w := _) ?_ hb ?_; (repeat' (first | (with_reducible assumption) | (with_reducible exact JnAt.new _ _ _) | (with_reducible apply JnAt.alloc) | (with_reducible apply JnAt.drewN) | (with_reducible apply JnAt.drew) | (with_reducible refine JnAt.far ?_ ?_ _) | omega)); first | done | omega | (simp; done) | (simp; omega)); have hJl : w.heap.size < wj.heap.size := hJ.lt; (try (have Sa : Secs A1 xs.length c1 xs wj := (by refine Secs.below ?_ hb; (repeat' (first | (with_reducible assumption) | (with_reducible apply Secs.alloc) | (with_reducible apply Secs.drewN) | (with_reducible apply Secs.drew)))))); clear hb) | (go_at_call 8; (with_reducible refine (sstays_m A1 xs.length c1 xs v bv _ (by (repeat' (first | (with_reducible assumption) | (with_reducible apply Secs.alloc) | (with_reducible apply Secs.drewN) | (with_reducible apply Secs.drew)))) HC).mono ?_); rintro e w3 ⟨rfl, hb⟩; have hB1 : Below w.heap.size w w3 := bstep (by exact below_) hb side_; have hJ : JnAt w3 w.heap.size v := (by refine JnAt.below (w := _) ?_ hb ?_; (repeat' (first | (with_reducible assumption) | (with_reducible exact JnAt.new _ _ _) | (with_reducible apply JnAt.alloc) | (with_reducible apply JnAt.drewN) | (with_reducible apply JnAt.drew) | (with_reducible refine JnAt.far ?_ ?_ _) | omega)); first | done | omega | (simp; done) | (simp; omega)); have hJl : w.heap.size < w3.heap.size := hJ.lt; clear hb))
  all_goals (
    have hB := hB1
    clear hB1
    clear hJ0 hz0 Sa
    have hz := hB.size
    go_wp2_with (go_at_call 9; (with_reducible refine (toSecs_any A len cap xs _ (hS0.below hB) hlen).mono ?_); rintro e w5 ⟨vx, rfl, Ox, hb⟩; refine Hid.out ?_)
    refine Lib.hid ?_
    have hJ5 := hJ.below hb hJ.lt
    have hB : Below w.heap.size w w5 := bstep hB hb hz
    have hz := hB.size
    obtain ⟨A2, c2, rfl, -⟩ := Ox.secs
    obtain ⟨j0, j1, j2, j3, j4, j5⟩ := hJ5
    clear hb hJ hJl
    go_wp2_with (go_at_call 10; (with_reducible refine (toJones_any v _).mono ?_); rintro e w6 ⟨rfl, hb⟩; refine Hid.out ?_)
    refine Lib.hid ?_
    have Ox := Ox.below hb
    have hB : Below w.heap.size w w6 := bstep hB hb hz
    have hz := hB.size
    clear hb j0 j1 j2 j3 j4 j5
    go_wp2_with (go_at_call 11; (with_reducible refine (stays_m A2 _ c2 xs v bv _ Ox.read (hGO.below hB) (hGZ.below hB) (hGT.below hB) (hGS.below hB) HC).mono ?_); rintro e w7 ⟨rfl, hb⟩; refine Hid.out ?_)
    refine Lib.hid ?_
    have Ox := Ox.below hb
    have hB : Below w.heap.size w w7 := bstep hB hb hz
    clear hb
    go_wp2_with (go_at_call 9; (with_reducible refine (toSecs_any A len cap xs _ (hS0.below hB) hlen).mono ?_); rintro e w9 ⟨vy, rfl, Oy, hb⟩; refine Hid.out ?_)
    refine Lib.hid ?_
    have Ox := Ox.below hb
    have hB : Below w.heap.size w w9 := bstep hB hb hB.size
    obtain ⟨A3, c3, rfl, -⟩ := Oy.secs
    clear hb
    go_wp2_with (go_at_call 12; (with_reducible refine (eqSecs_refl A2 A3 _ c2 c3 _ _ Ox.read Oy.read).mono ?_); rintro e w10 ⟨rfl, hb⟩; have hB10 : Below w.heap.size w w10 := bstep hB hb hB.size; clear hb)
    go_ret
    exact ⟨rfl, by exact below_⟩)
end Go.Proofs.YtiagnnmnaakmoaaDoor
