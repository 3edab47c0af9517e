/-
  The walk of the statement that compares what a fibre makes of light with the reference's: it returns true, for every list and every vector.
-/
import Derived.Test.YtmaifiakjlbooaaDoorGb
import Derived.Test.YtmaifiakjlbooaaDoorGc
namespace Go.Proofs.YtmaifiakjlbooaaDoor
set_option linter.unusedSimpArgs false
set_option linter.unusedVariables false
open Go.RowKit
attribute [local go_sem ↓] Go.wp_at_zero Go.wp_at_succ
theorem JnAt.same {w w' : World} {b : Nat} {m : Jn} (h : JnAt w b m) (hc : ∀ o, w'.cell? ⟨b, o, none⟩ = w.cell? ⟨b, o, none⟩) : JnAt w' b m := by
  unfold JnAt at h ⊢
  simp only [hc]
  exact h
theorem JnAt.lt {w : World} {b : Nat} {m : Jn} (h : JnAt w b m) : b < w.heap.size := World.block_lt_of_cell? w _ h.1
theorem JnAt.below {w w' : World} {b B : Nat} {m : Jn} (h : JnAt w b m) (hb : Below B w w') (hlt : b < B) : JnAt w' b m := h.same fun o => hb.cell (p := ⟨b, o, none⟩) hlt
theorem JnAt.alloc {w : World} {b : Nat} {m : Jn} (h : JnAt w b m) (o : Obj) : JnAt (w.alloc o) b m := h.below ((Below.refl _ _).alloc (Nat.le_refl _) o) h.lt
theorem JnAt.drew {w : World} {b : Nat} {m : Jn} (h : JnAt w b m) : JnAt w.drew b m := h
theorem JnAt.drewN {w : World} {b : Nat} {m : Jn} (h : JnAt w b m) (n : Nat) : JnAt (w.drewN n) b m := h
theorem JnAt.far {w : World} {b : Nat} {m : Jn} (h : JnAt w b m) {p : Addr} (hp : b < p.block) (u : Value) : JnAt (w.setCell p u) b m := h.below ((Below.refl p.block w).setCell (Nat.le_refl _) u) hp
theorem JnAt.new (w : World) (m : Jn) (t : TypeId) : JnAt (w.alloc (.cells #[.int .i64 m.x.re, .int .i64 m.x.im, .int .i64 m.x.den, .int .i64 m.y.re, .int .i64 m.y.im, .int .i64 m.y.den] t)) w.heap.size m :=
  ⟨World.cell?_alloc_at _ _ _ _ rfl, World.cell?_alloc_at _ _ _ _ rfl, World.cell?_alloc_at _ _ _ _ rfl, World.cell?_alloc_at _ _ _ _ rfl, World.cell?_alloc_at _ _ _ _ rfl, World.cell?_alloc_at _ _ _ _ rfl⟩
/-- Both: the light that came in, and the list that was handed over. -/
theorem Secs.alloc {A : Option Addr} {len cap : Nat} {xs : List Sec} {w : World} (h : Secs A len cap xs w) (o : Obj) : Secs A len cap xs (w.alloc o) := h.below ((Below.refl _ _).alloc (Nat.le_refl _) o)
theorem Secs.drew {A : Option Addr} {len cap : Nat} {xs : List Sec} {w : World} (h : Secs A len cap xs w) : Secs A len cap xs w.drew := h
theorem Secs.drewN {A : Option Addr} {len cap : Nat} {xs : List Sec} {w : World} (h : Secs A len cap xs w) (n : Nat) : Secs A len cap xs (w.drewN n) := h
def zJ : Jn := ⟨⟨0, 0, 0⟩, ⟨0, 0, 0⟩⟩
abbrev setJ (W : World) (b : Nat) (y : Jn) : World := (((((W.setCell ⟨b, 0, none⟩ (.int .i64 y.x.re)).setCell ⟨b, 1, none⟩ (.int .i64 y.x.im)).setCell ⟨b, 2, none⟩ (.int .i64 y.x.den)).setCell ⟨b, 3, none⟩ (.int .i64 y.y.re)).setCell ⟨b, 4, none⟩ (.int .i64 y.y.im)).setCell ⟨b, 5, none⟩ (.int .i64 y.y.den)
theorem setJ_cell {W : World} {b : Nat} {y : Jn} {b' o : Nat} (h : b' ≠ b) : (setJ W b y).cell? ⟨b', o, none⟩ = W.cell? ⟨b', o, none⟩ := by
  have hne : ∀ i : Nat, (⟨b, i, none⟩ : Addr) ≠ ⟨b', o, none⟩ := fun i e => h (by injection e with e1; exact e1.symm)
  unfold setJ
  rw [World.cell?_setCell_other (h := hne _), World.cell?_setCell_other (h := hne _), World.cell?_setCell_other (h := hne _), World.cell?_setCell_other (h := hne _), World.cell?_setCell_other (h := hne _), World.cell?_setCell_other (h := hne _)]
theorem setJ_at {W : World} {b : Nat} {y x : Jn} (h : JnAt W b x) : JnAt (setJ W b y) b y := by
  obtain ⟨h0, h1, h2, h3, h4, h5⟩ := h
  unfold setJ
  refine ⟨?_, ?_, ?_, ?_, ?_, ?_⟩ <;> simp [cellSetSame, World.cell?_setCell_other, *]
theorem setJ_far {W : World} {b b' : Nat} {y x : Jn} (h : JnAt W b' x) (hne : b' ≠ b) : JnAt (setJ W b y) b' x := h.same fun o => setJ_cell hne
theorem setJ_below {B b : Nat} {w W : World} {y : Jn} (h : Below B w W) (hb : B ≤ b) : Below B w (setJ W b y) := by
  unfold setJ
  exact ((((((h.setCell (p := ⟨b, 0, none⟩) hb _).setCell (p := ⟨b, 1, none⟩) hb _).setCell (p := ⟨b, 2, none⟩) hb _).setCell (p := ⟨b, 3, none⟩) hb _).setCell (p := ⟨b, 4, none⟩) hb _).setCell (p := ⟨b, 5, none⟩) hb _)
def JnF (w : World) (b : Nat) (m : Jn) : Prop := JnAt w b m ∧ FreeB w b
theorem JnF.alloc {w : World} {b : Nat} {m : Jn} (h : JnF w b m) (o : Obj) : JnF (w.alloc o) b m := ⟨h.1.alloc o, h.2.alloc h.1.lt o⟩
theorem JnF.drew {w : World} {b : Nat} {m : Jn} (h : JnF w b m) : JnF w.drew b m := h
theorem JnF.drewN {w : World} {b : Nat} {m : Jn} (h : JnF w b m) (n : Nat) : JnF (w.drewN n) b m := h
theorem JnF.below {w w' : World} {b B : Nat} {m : Jn} (h : JnF w b m) (hb : Below B w w') (hlt : b < B) : JnF w' b m := ⟨h.1.below hb hlt, h.2.below hb hlt⟩
theorem JnF.new (w : World) (m : Jn) (t : TypeId) : JnF (w.alloc (.cells #[.int .i64 m.x.re, .int .i64 m.x.im, .int .i64 m.x.den, .int .i64 m.y.re, .int .i64 m.y.im, .int .i64 m.y.den] t)) w.heap.size m := ⟨JnAt.new w m t, FreeB.new w _ _⟩
theorem sfibRun_m (A : Option Addr) (len cap : Nat) (xs : List Sec) (v M : Jn) (fl : Bool) (w : World) (h : Secs A len cap xs w) (e : jnb (fibRunI xs v) = .tuple #[jnv M, .bool fl]) :
    Calls Tryd.prog 32 #[.slice A len cap, jnv v] w fun e w' => e = .returned (.tuple #[jnv M, .bool fl]) ∧ Below w.heap.size w w' := by rw [← e]; exact sfibRun_any A len cap xs v w h
theorem fibRun_m (A : Option Addr) (len cap : Nat) (xs : List Sec) (v M : Jn) (fl : Bool) (w : World) (h : Secs A len cap xs w) (hO : GO w) (hZ : GZ w) (hT : GT w) (hS : GS w) (e : jnb (fibRunI xs v) = .tuple #[jnv M, .bool fl]) :
    Calls Tryd.prog 34 #[.slice A len cap, jnv v] w fun e w' => e = .returned (.tuple #[jnv M, .bool fl]) ∧ Below w.heap.size w w' := by rw [← e]; exact fibRun_any A len cap xs v w h hO hZ hT hS
set_option maxRecDepth 100000 in
set_option maxHeartbeats 16000000 in
theorem fnExactFibreRun_walk (A : Option Addr) (len cap : Nat) (xs : List Sec) (v : Jn) (w : World) (hS0 : Secs A len cap xs w) (hGO : GO w) (hGZ : GZ w) (hGT : GT w) (hGS : GS w) :
    Calls Tryd.prog 7 #[.slice A len cap, jnv v] w fun e w' => e = .returned (.bool true) ∧ Below w.heap.size w w' := by
  have hcap := hS0.2.2.1
  have hlc := hS0.2.1
  obtain ⟨M, hM⟩ : ∃ M, M = (fibRunI xs v).getD ⟨⟨0, 0, 0⟩, ⟨0, 0, 0⟩⟩ := ⟨_, rfl⟩
  obtain ⟨fl, hfl⟩ : ∃ fl, fl = (fibRunI xs v).isSome := ⟨_, rfl⟩
  have HC : jnb (fibRunI xs v) = .tuple #[jnv M, .bool fl] := by rw [hM, hfl]
  have HC := Lib.hid HC
  clear hM hfl
  by_cases hbig : 1048576 < len
  · go_enter Tryd.func7, Tryd.ntmps7
    go_wp2_with (go_at_call 28; (with_reducible refine (sz_far A len cap _ hbig (by omega)).mono ?_); rintro e w1 ⟨rfl, hb⟩; have hB1 : Below w.heap.size w w1 := bstep (by (repeat' (first | (with_reducible exact Below.refl _ _) | (with_reducible assumption) | (with_reducible refine Below.setCell ?_ (by first | omega | (simp; done) | (simp; omega)) _) | (with_reducible refine Below.alloc ?_ (by first | omega | (simp; done) | (simp; omega)) _) | (with_reducible refine below_drewN ?_ _) | (with_reducible refine Below.drew ?_)))) hb (by first | omega | (simp; done) | (simp; omega)); clear hb)
    go_ret
    exact ⟨rfl, by (repeat' (first | (with_reducible exact Below.refl _ _) | (with_reducible assumption) | (with_reducible refine Below.setCell ?_ (by first | omega | (simp; done) | (simp; omega)) _) | (with_reducible refine Below.alloc ?_ (by first | omega | (simp; done) | (simp; omega)) _) | (with_reducible refine below_drewN ?_ _) | (with_reducible refine Below.drew ?_)))⟩
  have hlen : len ≤ 1048576 := by omega
  clear hbig
  go_enter Tryd.func7, Tryd.ntmps7
  go_wp2_with (go_at_call 28; (with_reducible refine (sz_any A len cap 1048576 _ (by omega) (by omega)).mono ?_); rintro e w1 ⟨rfl, hb⟩; refine Hid.out ?_)
  refine Lib.hid ?_
  have hB0 : Below w.heap.size w w1 := bstep (by (repeat' (first | (with_reducible exact Below.refl _ _) | (with_reducible assumption) | (with_reducible refine Below.setCell ?_ (by first | omega | (simp; done) | (simp; omega)) _) | (with_reducible refine Below.alloc ?_ (by first | omega | (simp; done) | (simp; omega)) _) | (with_reducible refine below_drewN ?_ _) | (with_reducible refine Below.drew ?_)))) hb (by simp)
  have hJ0 : JnAt w1 w.heap.size v := (JnAt.new w v 52).below hb (by simp)
  have hz0 : w.heap.size < w1.heap.size := hJ0.lt
  clear hb
  go_wp2
  go_region_held3 (fun w' => w'.cell? ⟨w.heap.size, 0, none⟩ = some (.int .i64 v.x.re) ∧ w'.cell? ⟨w.heap.size, 1, none⟩ = some (.int .i64 v.x.im) ∧ w'.cell? ⟨w.heap.size, 2, none⟩ = some (.int .i64 v.x.den) ∧ w'.cell? ⟨w.heap.size, 3, none⟩ = some (.int .i64 v.y.re) ∧ w'.cell? ⟨w.heap.size, 4, none⟩ = some (.int .i64 v.y.im) ∧ w'.cell? ⟨w.heap.size, 5, none⟩ = some (.int .i64 v.y.den)) ((show JnAt _ w.heap.size v; (repeat' (first | (with_reducible assumption) | (with_reducible exact JnAt.new _ _ _) | (with_reducible apply JnAt.alloc) | (with_reducible apply JnAt.drewN) | (with_reducible apply JnAt.drew) | (with_reducible refine JnAt.far ?_ ?_ _) | omega)))) (first | (go_at_call 29; (with_reducible refine (toSecs_any A len cap xs _ (hS0.below (by (repeat' (first | (with_reducible exact Below.refl _ _) | (with_reducible assumption) | (with_reducible refine Below.setCell ?_ (by first | omega | (simp; done) | (simp; omega)) _) | (with_reducible refine Below.alloc ?_ (by first | omega | (simp; done) | (simp; omega)) _) | (with_reducible refine below_drewN ?_ _) | (with_reducible refine Below.drew ?_))))) hlen).mono ?_); rintro e wa ⟨va, rfl, Oa, hb⟩; obtain ⟨A1, c1, rfl, Sa⟩ := Oa.secs; have hB1 : Below w.heap.size w wa := bstep (by (repeat' (first | (with_reducible exact Below.refl _ _) | (with_reducible assumption) | (with_reducible refine Below.setCell ?_ (by first | omega | (simp; done) | (simp; omega)) _) | (with_reducible refine Below.alloc ?_ (by first | omega | (simp; done) | (simp; omega)) _) | (with_reducible refine below_drewN ?_ _) | (with_reducible refine Below.drew ?_)))) hb (by first | omega | (simp; done) | (simp; omega)); have hz1 := hb.size; (try simp only [World.size_alloc, World.size_setCell, World.size_drew, World.heap_drewN] at hz1); have hJ : JnAt wa w.heap.size v := (by refine JnAt.below (w := _) ?_ hb ?_; (repeat' (first | (with_reducible assumption) | (with_reducible exact JnAt.new _ _ _) | (with_reducible apply JnAt.alloc) | (with_reducible apply JnAt.drewN) | (with_reducible apply JnAt.drew) | (with_reducible refine JnAt.far ?_ ?_ _) | omega)); first | done | omega | (simp; done) | (simp; omega)); have hJl : w.heap.size < wa.heap.size := hJ.lt; (try (have hT : JnF wa (w1.heap.size) zJ := (by refine JnF.below (w := _) ?_ hb ?_; (repeat' (first | (with_reducible assumption) | (with_reducible exact JnF.new _ _ _) | (exact JnF.new _ zJ _) | (with_reducible apply JnF.alloc) | (with_reducible apply JnF.drewN) | (with_reducible apply JnF.drew))); first | done | omega | (simp; done) | (simp; omega)); have hTf := hT.2; unfold FreeB at hTf; obtain ⟨z0, z1, z2, z3, z4, z5⟩ := hT.1)); (try (have hT : JnF wa (wj.heap.size) zJ := (by refine JnF.below (w := _) ?_ hb ?_; (repeat' (first | (with_reducible assumption) | (with_reducible exact JnF.new _ _ _) | (exact JnF.new _ zJ _) | (with_reducible apply JnF.alloc) | (with_reducible apply JnF.drewN) | (with_reducible apply JnF.drew))); first | done | omega | (simp; done) | (simp; omega)); have hTf := hT.2; unfold FreeB at hTf; obtain ⟨z0, z1, z2, z3, z4, z5⟩ := hT.1)); clear hb Oa) | (go_at_call 33; (with_reducible refine (toJones_any v _).mono ?_); rintro e wj ⟨rfl, hb⟩; have hB1 : Below w.heap.size w wj := bstep (by (repeat' (first | (with_reducible exact Below.refl _ _) | (with_reducible assumption) | (with_reducible refine Below.setCell ?_ (by first | omega | (simp; done) | (simp; omega)) _) | (with_reducible refine Below.alloc ?_ (by first | omega | (simp; done) | (simp; omega)) _) | (with_reducible refine below_drewN ?_ _) | (with_reducible refine Below.drew ?_)))) hb (by first | omega | (simp; done) | (simp; omega)); have hz1 := hb.size; (try simp only [World.size_alloc, World.size_setCell, World.size_drew, World.heap_drewN] at hz1); have hJ : JnAt wj w.heap.size v := (by refine JnAt.below (w := _) ?_ hb ?_; (repeat' (first | (with_reducible assumption) | (with_reducible exact JnAt.new _ _ _) | (with_reducible apply JnAt.alloc) | (with_reducible apply JnAt.drewN) | (with_reducible apply JnAt.drew) | (with_reducible refine JnAt.far ?_ ?_ _) | omega)); first | done | omega | (simp; done) | (simp; omega)); have hJl : w.heap.size < wj.heap.size := hJ.lt; (try (have hT : JnF wj (w1.heap.size) zJ := (by refine JnF.below (w := _) ?_ hb ?_; (repeat' (first | (with_reducible assumption) | (with_reducible exact JnF.new _ _ _) | (exact JnF.new _ zJ _) | (with_reducible apply JnF.alloc) | (with_reducible apply JnF.drewN) | (with_reducible apply JnF.drew))); first | done | omega | (simp; done) | (simp; omega)); have hTf := hT.2; unfold FreeB at hTf; obtain ⟨z0, z1, z2, z3, z4, z5⟩ := hT.1)); (try (have hT : JnF wj (wa.heap.size) zJ := (by refine JnF.below (w := _) ?_ hb ?_; (repeat' (first | (with_reducible assumption) | (with_reducible exact JnF.new _ _ _) | (exact JnF.new _ zJ _) | (with_reducible apply JnF.alloc) | (with_reducible apply JnF.drewN) | (with_reducible apply JnF.drew))); first | done | omega | (simp; done) | (simp; omega)); have hTf := hT.2; unfold FreeB at hTf; obtain ⟨z0, z1, z2, z3, z4, z5⟩ := hT.1)); (try (have Sa : Secs A1 xs.length c1 xs wj := (by refine Secs.below ?_ hb; (repeat' (first | (with_reducible assumption) | (with_reducible apply Secs.alloc) | (with_reducible apply Secs.drewN) | (with_reducible apply Secs.drew)))))); clear hb) | (go_at_call 32; (with_reducible refine (sfibRun_m A1 xs.length c1 xs v M fl _ (by (repeat' (first | (with_reducible assumption) | (with_reducible apply Secs.alloc) | (with_reducible apply Secs.drewN) | (with_reducible apply Secs.drew)))) HC.out).mono ?_); rintro e w3 ⟨rfl, hb⟩; have hB1 : Below w.heap.size w w3 := bstep (by (repeat' (first | (with_reducible exact Below.refl _ _) | (with_reducible assumption) | (with_reducible refine Below.setCell ?_ (by first | omega | (simp; done) | (simp; omega)) _) | (with_reducible refine Below.alloc ?_ (by first | omega | (simp; done) | (simp; omega)) _) | (with_reducible refine below_drewN ?_ _) | (with_reducible refine Below.drew ?_)))) hb (by first | omega | (simp; done) | (simp; omega)); have hz1 := hb.size; (try simp only [World.size_alloc, World.size_setCell, World.size_drew, World.heap_drewN] at hz1); have hJ : JnAt w3 w.heap.size v := (by refine JnAt.below (w := _) ?_ hb ?_; (repeat' (first | (with_reducible assumption) | (with_reducible exact JnAt.new _ _ _) | (with_reducible apply JnAt.alloc) | (with_reducible apply JnAt.drewN) | (with_reducible apply JnAt.drew) | (with_reducible refine JnAt.far ?_ ?_ _) | omega)); first | done | omega | (simp; done) | (simp; omega)); have hJl : w.heap.size < w3.heap.size := hJ.lt; (try (have hT : JnF w3 (w1.heap.size) zJ := (by refine JnF.below (w := _) ?_ hb ?_; (repeat' (first | (with_reducible assumption) | (with_reducible exact JnF.new _ _ _) | (exact JnF.new _ zJ _) | (with_reducible apply JnF.alloc) | (with_reducible apply JnF.drewN) | (with_reducible apply JnF.drew))); first | done | omega | (simp; done) | (simp; omega)); have hTf := hT.2; unfold FreeB at hTf; obtain ⟨z0, z1, z2, z3, z4, z5⟩ := hT.1)); (try (have hT : JnF w3 (wa.heap.size) zJ := (by refine JnF.below (w := _) ?_ hb ?_; (repeat' (first | (with_reducible assumption) | (with_reducible exact JnF.new _ _ _) | (exact JnF.new _ zJ _) | (with_reducible apply JnF.alloc) | (with_reducible apply JnF.drewN) | (with_reducible apply JnF.drew))); first | done | omega | (simp; done) | (simp; omega)); have hTf := hT.2; unfold FreeB at hTf; obtain ⟨z0, z1, z2, z3, z4, z5⟩ := hT.1)); (try (have hT : JnF w3 (wj.heap.size) zJ := (by refine JnF.below (w := _) ?_ hb ?_; (repeat' (first | (with_reducible assumption) | (with_reducible exact JnF.new _ _ _) | (exact JnF.new _ zJ _) | (with_reducible apply JnF.alloc) | (with_reducible apply JnF.drewN) | (with_reducible apply JnF.drew))); first | done | omega | (simp; done) | (simp; omega)); have hTf := hT.2; unfold FreeB at hTf; obtain ⟨z0, z1, z2, z3, z4, z5⟩ := hT.1)); clear hb))
  · obtain ⟨W, hW⟩ : ∃ W, W = w3.alloc (.cells #[.int .i64 M.x.re, .int .i64 M.x.im, .int .i64 M.x.den, .int .i64 M.y.re, .int .i64 M.y.im, .int .i64 M.y.den] 54) := ⟨_, rfl⟩
    have hB : Below w.heap.size w W := by rw [hW]; exact hB1.alloc (by omega) _
    have hJW : JnAt W w.heap.size v := by rw [hW]; exact hJ.alloc _
    obtain ⟨bM, hbM⟩ : ∃ bM, bM = w3.heap.size := ⟨_, rfl⟩
    have hM : JnAt W bM M := by rw [hW, hbM]; exact JnAt.new w3 M _
    rw [← hW, ← hbM]
    clear hW hbM
    clear hJ0 hz0 hJ hJl Sa
    have hz := hB.size
    have hlm := hM.lt
    have hlj := hJW.lt
    go_wp2_with (go_at_call 29; (with_reducible refine (toSecs_any A len cap xs _ (hS0.below hB) hlen).mono ?_); rintro e w5 ⟨vx, rfl, Ox, hb⟩; refine Hid.out ?_)
    refine Lib.hid ?_
    have hM := hM.below hb hlm
    have hJ5 := hJW.below hb hlj
    have hB : Below w.heap.size w w5 := bstep hB hb hz
    have hz := hB.size
    obtain ⟨A2, c2, rfl, -⟩ := Ox.secs
    obtain ⟨j0, j1, j2, j3, j4, j5⟩ := hJ5
    clear hb hJW
    go_wp2_with (go_at_call 33; (with_reducible refine (toJones_any v _).mono ?_); rintro e w6 ⟨rfl, hb⟩; refine Hid.out ?_)
    refine Lib.hid ?_
    have hM := hM.below hb hM.lt
    have Ox := Ox.below hb
    have hB : Below w.heap.size w w6 := bstep hB hb hz
    have hz := hB.size
    clear hb j0 j1 j2 j3 j4 j5
    go_wp2_with (go_at_call 34; (with_reducible refine (fibRun_m A2 _ c2 xs v M fl _ Ox.read (hGO.below hB) (hGZ.below hB) (hGT.below hB) (hGS.below hB) HC.out).mono ?_); rintro e w7 ⟨rfl, hb⟩; refine Hid.out ?_)
    refine Lib.hid ?_
    have hM := hM.below hb hM.lt
    have hlm7 := hM.lt
    have Ox := (Ox.below hb).alloc (.cells #[.int .i64 M.x.re, .int .i64 M.x.im, .int .i64 M.x.den, .int .i64 M.y.re, .int .i64 M.y.im, .int .i64 M.y.den] 54)
    have hB : Below w.heap.size w w7 := bstep hB hb hz
    have hz := hB.size
    have hB8 : Below w.heap.size w (w7.alloc (.cells #[.int .i64 M.x.re, .int .i64 M.x.im, .int .i64 M.x.den, .int .i64 M.y.re, .int .i64 M.y.im, .int .i64 M.y.den] 54)) := hB.alloc hz _
    obtain ⟨m0, m1, m2, m3, m4, m5⟩ := hM
    clear hb
    go_wp2_with (go_at_call 35; (with_reducible refine (eqJones_refl M _).mono ?_); rintro e w8 ⟨rfl, hb⟩; refine Hid.out ?_)
    refine Lib.hid ?_
    have Ox := Ox.below hb
    have hB : Below w.heap.size w w8 := bstep hB8 hb (by simp; omega)
    clear hb hB8 m0 m1 m2 m3 m4 m5
    go_wp2_with (go_at_call 29; (with_reducible refine (toSecs_any A len cap xs _ (hS0.below hB) hlen).mono ?_); rintro e w9 ⟨vy, rfl, Oy, hb⟩; refine Hid.out ?_)
    refine Lib.hid ?_
    have Ox := Ox.below hb
    have hB : Below w.heap.size w w9 := bstep hB hb hB.size
    obtain ⟨A3, c3, rfl, -⟩ := Oy.secs
    clear hb
    go_wp2_with (go_at_call 31; (with_reducible refine (eqSecs_refl A2 A3 _ c2 c3 _ _ Ox.read Oy.read).mono ?_); rintro e w10 ⟨rfl, hb⟩; have hB10 : Below w.heap.size w w10 := bstep hB hb hB.size; clear hb)
    go_ret
    exact ⟨rfl, by (repeat' (first | (with_reducible exact Below.refl _ _) | (with_reducible assumption) | (with_reducible refine Below.setCell ?_ (by first | omega | (simp; done) | (simp; omega)) _) | (with_reducible refine Below.alloc ?_ (by first | omega | (simp; done) | (simp; omega)) _) | (with_reducible refine below_drewN ?_ _) | (with_reducible refine Below.drew ?_)))⟩
  · obtain ⟨W, hW⟩ : ∃ W, W = (((((w3.setCell ⟨wj.heap.size, 0, none⟩ (.int .i64 M.x.re)).setCell ⟨wj.heap.size, 1, none⟩ (.int .i64 M.x.im)).setCell ⟨wj.heap.size, 2, none⟩ (.int .i64 M.x.den)).setCell ⟨wj.heap.size, 3, none⟩ (.int .i64 M.y.re)).setCell ⟨wj.heap.size, 4, none⟩ (.int .i64 M.y.im)).setCell ⟨wj.heap.size, 5, none⟩ (.int .i64 M.y.den) := ⟨_, rfl⟩
    have hB : Below w.heap.size w W := by rw [hW]; exact setJ_below hB1 (by omega)
    have hJW : JnAt W w.heap.size v := by rw [hW]; exact setJ_far hJ (by omega)
    have hM0 : JnAt W (wj.heap.size) M := by rw [hW]; exact setJ_at hT.1
    rw [← hW]
    obtain ⟨bM, hbM⟩ : ∃ bM, bM = wj.heap.size := ⟨_, rfl⟩
    have hM : JnAt W bM M := by rw [hbM]; exact hM0
    rw [← hbM]
    clear hW hbM hM0 hT hTf z0 z1 z2 z3 z4 z5
    clear hJ0 hz0 hJ hJl Sa
    have hz := hB.size
    have hlm := hM.lt
    have hlj := hJW.lt
    go_wp2_with (go_at_call 29; (with_reducible refine (toSecs_any A len cap xs _ (hS0.below hB) hlen).mono ?_); rintro e w5 ⟨vx, rfl, Ox, hb⟩; refine Hid.out ?_)
    refine Lib.hid ?_
    have hM := hM.below hb hlm
    have hJ5 := hJW.below hb hlj
    have hB : Below w.heap.size w w5 := bstep hB hb hz
    have hz := hB.size
    obtain ⟨A2, c2, rfl, -⟩ := Ox.secs
    obtain ⟨j0, j1, j2, j3, j4, j5⟩ := hJ5
    clear hb hJW
    go_wp2_with (go_at_call 33; (with_reducible refine (toJones_any v _).mono ?_); rintro e w6 ⟨rfl, hb⟩; refine Hid.out ?_)
    refine Lib.hid ?_
    have hM := hM.below hb hM.lt
    have Ox := Ox.below hb
    have hB : Below w.heap.size w w6 := bstep hB hb hz
    have hz := hB.size
    clear hb j0 j1 j2 j3 j4 j5
    go_wp2_with (go_at_call 34; (with_reducible refine (fibRun_m A2 _ c2 xs v M fl _ Ox.read (hGO.below hB) (hGZ.below hB) (hGT.below hB) (hGS.below hB) HC.out).mono ?_); rintro e w7 ⟨rfl, hb⟩; refine Hid.out ?_)
    refine Lib.hid ?_
    have hM := hM.below hb hM.lt
    have hlm7 := hM.lt
    have Ox := (Ox.below hb).alloc (.cells #[.int .i64 M.x.re, .int .i64 M.x.im, .int .i64 M.x.den, .int .i64 M.y.re, .int .i64 M.y.im, .int .i64 M.y.den] 54)
    have hB : Below w.heap.size w w7 := bstep hB hb hz
    have hz := hB.size
    have hB8 : Below w.heap.size w (w7.alloc (.cells #[.int .i64 M.x.re, .int .i64 M.x.im, .int .i64 M.x.den, .int .i64 M.y.re, .int .i64 M.y.im, .int .i64 M.y.den] 54)) := hB.alloc hz _
    obtain ⟨m0, m1, m2, m3, m4, m5⟩ := hM
    clear hb
    go_wp2_with (go_at_call 35; (with_reducible refine (eqJones_refl M _).mono ?_); rintro e w8 ⟨rfl, hb⟩; refine Hid.out ?_)
    refine Lib.hid ?_
    have Ox := Ox.below hb
    have hB : Below w.heap.size w w8 := bstep hB8 hb (by simp; omega)
    clear hb hB8 m0 m1 m2 m3 m4 m5
    go_wp2_with (go_at_call 29; (with_reducible refine (toSecs_any A len cap xs _ (hS0.below hB) hlen).mono ?_); rintro e w9 ⟨vy, rfl, Oy, hb⟩; refine Hid.out ?_)
    refine Lib.hid ?_
    have Ox := Ox.below hb
    have hB : Below w.heap.size w w9 := bstep hB hb hB.size
    obtain ⟨A3, c3, rfl, -⟩ := Oy.secs
    clear hb
    go_wp2_with (go_at_call 31; (with_reducible refine (eqSecs_refl A2 A3 _ c2 c3 _ _ Ox.read Oy.read).mono ?_); rintro e w10 ⟨rfl, hb⟩; have hB10 : Below w.heap.size w w10 := bstep hB hb hB.size; clear hb)
    go_ret
    exact ⟨rfl, by (repeat' (first | (with_reducible exact Below.refl _ _) | (with_reducible assumption) | (with_reducible refine Below.setCell ?_ (by first | omega | (simp; done) | (simp; omega)) _) | (with_reducible refine Below.alloc ?_ (by first | omega | (simp; done) | (simp; omega)) _) | (with_reducible refine below_drewN ?_ _) | (with_reducible refine Below.drew ?_)))⟩
  · obtain ⟨W, hW⟩ : ∃ W, W = (((((w3.setCell ⟨wa.heap.size, 0, none⟩ (.int .i64 M.x.re)).setCell ⟨wa.heap.size, 1, none⟩ (.int .i64 M.x.im)).setCell ⟨wa.heap.size, 2, none⟩ (.int .i64 M.x.den)).setCell ⟨wa.heap.size, 3, none⟩ (.int .i64 M.y.re)).setCell ⟨wa.heap.size, 4, none⟩ (.int .i64 M.y.im)).setCell ⟨wa.heap.size, 5, none⟩ (.int .i64 M.y.den) := ⟨_, rfl⟩
    have hB : Below w.heap.size w W := by rw [hW]; exact setJ_below hB1 (by omega)
    have hJW : JnAt W w.heap.size v := by rw [hW]; exact setJ_far hJ (by omega)
    have hM0 : JnAt W (wa.heap.size) M := by rw [hW]; exact setJ_at hT.1
    rw [← hW]
    obtain ⟨bM, hbM⟩ : ∃ bM, bM = wa.heap.size := ⟨_, rfl⟩
    have hM : JnAt W bM M := by rw [hbM]; exact hM0
    rw [← hbM]
    clear hW hbM hM0 hT hTf z0 z1 z2 z3 z4 z5
    clear hJ0 hz0 hJ hJl Sa
    have hz := hB.size
    have hlm := hM.lt
    have hlj := hJW.lt
    go_wp2_with (go_at_call 29; (with_reducible refine (toSecs_any A len cap xs _ (hS0.below hB) hlen).mono ?_); rintro e w5 ⟨vx, rfl, Ox, hb⟩; refine Hid.out ?_)
    refine Lib.hid ?_
    have hM := hM.below hb hlm
    have hJ5 := hJW.below hb hlj
    have hB : Below w.heap.size w w5 := bstep hB hb hz
    have hz := hB.size
    obtain ⟨A2, c2, rfl, -⟩ := Ox.secs
    obtain ⟨j0, j1, j2, j3, j4, j5⟩ := hJ5
    clear hb hJW
    go_wp2_with (go_at_call 33; (with_reducible refine (toJones_any v _).mono ?_); rintro e w6 ⟨rfl, hb⟩; refine Hid.out ?_)
    refine Lib.hid ?_
    have hM := hM.below hb hM.lt
    have Ox := Ox.below hb
    have hB : Below w.heap.size w w6 := bstep hB hb hz
    have hz := hB.size
    clear hb j0 j1 j2 j3 j4 j5
    go_wp2_with (go_at_call 34; (with_reducible refine (fibRun_m A2 _ c2 xs v M fl _ Ox.read (hGO.below hB) (hGZ.below hB) (hGT.below hB) (hGS.below hB) HC.out).mono ?_); rintro e w7 ⟨rfl, hb⟩; refine Hid.out ?_)
    refine Lib.hid ?_
    have hM := hM.below hb hM.lt
    have hlm7 := hM.lt
    have Ox := (Ox.below hb).alloc (.cells #[.int .i64 M.x.re, .int .i64 M.x.im, .int .i64 M.x.den, .int .i64 M.y.re, .int .i64 M.y.im, .int .i64 M.y.den] 54)
    have hB : Below w.heap.size w w7 := bstep hB hb hz
    have hz := hB.size
    have hB8 : Below w.heap.size w (w7.alloc (.cells #[.int .i64 M.x.re, .int .i64 M.x.im, .int .i64 M.x.den, .int .i64 M.y.re, .int .i64 M.y.im, .int .i64 M.y.den] 54)) := hB.alloc hz _
    obtain ⟨m0, m1, m2, m3, m4, m5⟩ := hM
    clear hb
    go_wp2_with (go_at_call 35; (with_reducible refine (eqJones_refl M _).mono ?_); rintro e w8 ⟨rfl, hb⟩; refine Hid.out ?_)
    refine Lib.hid ?_
    have Ox := Ox.below hb
    have hB : Below w.heap.size w w8 := bstep hB8 hb (by simp; omega)
    clear hb hB8 m0 m1 m2 m3 m4 m5
    go_wp2_with (go_at_call 29; (with_reducible refine (toSecs_any A len cap xs _ (hS0.below hB) hlen).mono ?_); rintro e w9 ⟨vy, rfl, Oy, hb⟩; refine Hid.out ?_)
    refine Lib.hid ?_
    have Ox := Ox.below hb
    have hB : Below w.heap.size w w9 := bstep hB hb hB.size
    obtain ⟨A3, c3, rfl, -⟩ := Oy.secs
    clear hb
    go_wp2_with (go_at_call 31; (with_reducible refine (eqSecs_refl A2 A3 _ c2 c3 _ _ Ox.read Oy.read).mono ?_); rintro e w10 ⟨rfl, hb⟩; have hB10 : Below w.heap.size w w10 := bstep hB hb hB.size; clear hb)
    go_ret
    exact ⟨rfl, by (repeat' (first | (with_reducible exact Below.refl _ _) | (with_reducible assumption) | (with_reducible refine Below.setCell ?_ (by first | omega | (simp; done) | (simp; omega)) _) | (with_reducible refine Below.alloc ?_ (by first | omega | (simp; done) | (simp; omega)) _) | (with_reducible refine below_drewN ?_ _) | (with_reducible refine Below.drew ?_)))⟩
  · obtain ⟨W, hW⟩ : ∃ W, W = (((((w3.setCell ⟨w1.heap.size, 0, none⟩ (.int .i64 M.x.re)).setCell ⟨w1.heap.size, 1, none⟩ (.int .i64 M.x.im)).setCell ⟨w1.heap.size, 2, none⟩ (.int .i64 M.x.den)).setCell ⟨w1.heap.size, 3, none⟩ (.int .i64 M.y.re)).setCell ⟨w1.heap.size, 4, none⟩ (.int .i64 M.y.im)).setCell ⟨w1.heap.size, 5, none⟩ (.int .i64 M.y.den) := ⟨_, rfl⟩
    have hB : Below w.heap.size w W := by rw [hW]; exact setJ_below hB1 (by omega)
    have hJW : JnAt W w.heap.size v := by rw [hW]; exact setJ_far hJ (by omega)
    have hM0 : JnAt W (w1.heap.size) M := by rw [hW]; exact setJ_at hT.1
    rw [← hW]
    obtain ⟨bM, hbM⟩ : ∃ bM, bM = w1.heap.size := ⟨_, rfl⟩
    have hM : JnAt W bM M := by rw [hbM]; exact hM0
    rw [← hbM]
    clear hW hbM hM0 hT hTf z0 z1 z2 z3 z4 z5
    clear hJ0 hz0 hJ hJl Sa
    have hz := hB.size
    have hlm := hM.lt
    have hlj := hJW.lt
    go_wp2_with (go_at_call 29; (with_reducible refine (toSecs_any A len cap xs _ (hS0.below hB) hlen).mono ?_); rintro e w5 ⟨vx, rfl, Ox, hb⟩; refine Hid.out ?_)
    refine Lib.hid ?_
    have hM := hM.below hb hlm
    have hJ5 := hJW.below hb hlj
    have hB : Below w.heap.size w w5 := bstep hB hb hz
    have hz := hB.size
    obtain ⟨A2, c2, rfl, -⟩ := Ox.secs
    obtain ⟨j0, j1, j2, j3, j4, j5⟩ := hJ5
    clear hb hJW
    go_wp2_with (go_at_call 33; (with_reducible refine (toJones_any v _).mono ?_); rintro e w6 ⟨rfl, hb⟩; refine Hid.out ?_)
    refine Lib.hid ?_
    have hM := hM.below hb hM.lt
    have Ox := Ox.below hb
    have hB : Below w.heap.size w w6 := bstep hB hb hz
    have hz := hB.size
    clear hb j0 j1 j2 j3 j4 j5
    go_wp2_with (go_at_call 34; (with_reducible refine (fibRun_m A2 _ c2 xs v M fl _ Ox.read (hGO.below hB) (hGZ.below hB) (hGT.below hB) (hGS.below hB) HC.out).mono ?_); rintro e w7 ⟨rfl, hb⟩; refine Hid.out ?_)
    refine Lib.hid ?_
    have hM := hM.below hb hM.lt
    have hlm7 := hM.lt
    have Ox := (Ox.below hb).alloc (.cells #[.int .i64 M.x.re, .int .i64 M.x.im, .int .i64 M.x.den, .int .i64 M.y.re, .int .i64 M.y.im, .int .i64 M.y.den] 54)
    have hB : Below w.heap.size w w7 := bstep hB hb hz
    have hz := hB.size
    have hB8 : Below w.heap.size w (w7.alloc (.cells #[.int .i64 M.x.re, .int .i64 M.x.im, .int .i64 M.x.den, .int .i64 M.y.re, .int .i64 M.y.im, .int .i64 M.y.den] 54)) := hB.alloc hz _
    obtain ⟨m0, m1, m2, m3, m4, m5⟩ := hM
    clear hb
    go_wp2_with (go_at_call 35; (with_reducible refine (eqJones_refl M _).mono ?_); rintro e w8 ⟨rfl, hb⟩; refine Hid.out ?_)
    refine Lib.hid ?_
    have Ox := Ox.below hb
    have hB : Below w.heap.size w w8 := bstep hB8 hb (by simp; omega)
    clear hb hB8 m0 m1 m2 m3 m4 m5
    go_wp2_with (go_at_call 29; (with_reducible refine (toSecs_any A len cap xs _ (hS0.below hB) hlen).mono ?_); rintro e w9 ⟨vy, rfl, Oy, hb⟩; refine Hid.out ?_)
    refine Lib.hid ?_
    have Ox := Ox.below hb
    have hB : Below w.heap.size w w9 := bstep hB hb hB.size
    obtain ⟨A3, c3, rfl, -⟩ := Oy.secs
    clear hb
    go_wp2_with (go_at_call 31; (with_reducible refine (eqSecs_refl A2 A3 _ c2 c3 _ _ Ox.read Oy.read).mono ?_); rintro e w10 ⟨rfl, hb⟩; have hB10 : Below w.heap.size w w10 := bstep hB hb hB.size; clear hb)
    go_ret
    exact ⟨rfl, by (repeat' (first | (with_reducible exact Below.refl _ _) | (with_reducible assumption) | (with_reducible refine Below.setCell ?_ (by first | omega | (simp; done) | (simp; omega)) _) | (with_reducible refine Below.alloc ?_ (by first | omega | (simp; done) | (simp; omega)) _) | (with_reducible refine below_drewN ?_ _) | (with_reducible refine Below.drew ?_)))⟩
end Go.Proofs.YtmaifiakjlbooaaDoor
