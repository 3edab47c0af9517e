/-
  Lists of Stokes numbers in memory, and the helpers of the statements on them.
-/
import Derived.Test.YtejkeihgcggmbaaDoorKh
import Derived.Test.YtejkeihgcggmbaaDoorMv
import Derived.Test.YtejkeihgcggmbaaDoorLg
import Derived.Deep.RegionHeld3
namespace Go.Proofs.YtejkeihgcggmbaaDoor
set_option linter.unusedSimpArgs false
set_option linter.unusedVariables false
open Go.RowKit
attribute [local go_sem ↓] Go.wp_at_zero Go.wp_at_succ
theorem MtAt.same {w w' : World} {b : Nat} {m : Mt} (h : MtAt w b m) (hc : ∀ o, w'.cell? ⟨b, o, none⟩ = w.cell? ⟨b, o, none⟩) : MtAt w' b m := by
  unfold MtAt at h ⊢
  simp only [hc]
  exact h
theorem MtAt.lt {w : World} {b : Nat} {m : Mt} (h : MtAt w b m) : b < w.heap.size := by
  have := World.block_lt_of_cell? w _ h.1
  exact this
theorem MtAt.below {w w' : World} {b B : Nat} {m : Mt} (h : MtAt w b m) (hb : Below B w w') (hlt : b < B) : MtAt w' b m := h.same fun o => hb.cell (p := ⟨b, o, none⟩) hlt
theorem MtAt.alloc {w : World} {b : Nat} {m : Mt} (h : MtAt w b m) (o : Obj) : MtAt (w.alloc o) b m := h.below ((Below.refl _ _).alloc (Nat.le_refl _) o) h.lt
theorem MtAt.new (w : World) (m : Mt) (t : TypeId) : MtAt (w.alloc (.cells #[.int .i64 m.a.re, .int .i64 m.a.im, .int .i64 m.a.den, .int .i64 m.b.re, .int .i64 m.b.im, .int .i64 m.b.den, .int .i64 m.c.re, .int .i64 m.c.im, .int .i64 m.c.den, .int .i64 m.d.re, .int .i64 m.d.im, .int .i64 m.d.den] t)) w.heap.size m :=
  ⟨World.cell?_alloc_at _ _ _ _ rfl, World.cell?_alloc_at _ _ _ _ rfl, World.cell?_alloc_at _ _ _ _ rfl, World.cell?_alloc_at _ _ _ _ rfl, World.cell?_alloc_at _ _ _ _ rfl, World.cell?_alloc_at _ _ _ _ rfl, World.cell?_alloc_at _ _ _ _ rfl, World.cell?_alloc_at _ _ _ _ rfl, World.cell?_alloc_at _ _ _ _ rfl, World.cell?_alloc_at _ _ _ _ rfl, World.cell?_alloc_at _ _ _ _ rfl, World.cell?_alloc_at _ _ _ _ rfl⟩
theorem MtAt.drew {w : World} {b : Nat} {m : Mt} (h : MtAt w b m) : MtAt w.drew b m := h
theorem MtAt.drewN {w : World} {b : Nat} {m : Mt} (h : MtAt w b m) (n : Nat) : MtAt (w.drewN n) b m := h
theorem MtAt.far {w : World} {b : Nat} {m : Mt} (h : MtAt w b m) {p : Addr} (hp : b < p.block) (u : Value) : MtAt (w.setCell p u) b m := h.below ((Below.refl p.block w).setCell (Nat.le_refl _) u) hp
/-- The four fractions of Stokes numbers. -/
def row4 (m : Mt) : List Fr := [m.a, m.b, m.c, m.d]
def flatS (ms : List Mt) : List Fr := ms.flatMap row4
theorem flatS_len : ∀ ms : List Mt, (flatS ms).length = ms.length * 4
  | [] => rfl
  | m :: ms => by
    show ([m.a, m.b, m.c, m.d] ++ flatS ms).length = _
    rw [List.length_append, flatS_len ms, List.length_cons]
    simp; omega
theorem flatS_get : ∀ (ms : List Mt) (k : Nat) (m : Mt), ms[k]? = some m → ∀ j, j < 4 → (flatS ms)[k * 4 + j]? = (row4 m)[j]?
  | [], k, m, h, _, _ => by simp at h
  | x :: ms, 0, m, h, j, hj => by
    simp at h; subst h
    show ([x.a, x.b, x.c, x.d] ++ flatS ms)[0 * 4 + j]? = _
    rw [Nat.zero_mul, Nat.zero_add, List.getElem?_append_left (by simpa using hj)]
    rfl
  | x :: ms, k + 1, m, h, j, hj => by
    show ([x.a, x.b, x.c, x.d] ++ flatS ms)[(k + 1) * 4 + j]? = _
    rw [List.getElem?_append_right (by simp; omega), show (k + 1) * 4 + j - [x.a, x.b, x.c, x.d].length = k * 4 + j by simp; omega]
    exact flatS_get ms k m (by simpa using h) j hj
theorem flatS_set : ∀ (ms : List Mt) (k : Nat) (m : Mt), k < ms.length → ((((flatS ms).set (k * 4) m.a).set (k * 4 + 1) m.b).set (k * 4 + 2) m.c).set (k * 4 + 3) m.d = flatS (ms.set k m)
  | [], k, m, h => by simp at h
  | x :: ms, 0, m, _ => rfl
  | x :: ms, k + 1, m, h => by
    have ih := flatS_set ms k m (by simpa using h)
    show ((((x.a :: x.b :: x.c :: x.d :: flatS ms).set ((k + 1) * 4) m.a).set ((k + 1) * 4 + 1) m.b).set ((k + 1) * 4 + 2) m.c).set ((k + 1) * 4 + 3) m.d = x.a :: x.b :: x.c :: x.d :: flatS (ms.set k m)
    rw [← ih, show (k + 1) * 4 = k * 4 + 1 + 1 + 1 + 1 by omega, show k * 4 + 1 + 1 + 1 + 1 + 1 = (k * 4 + 1) + 1 + 1 + 1 + 1 by omega, show k * 4 + 1 + 1 + 1 + 1 + 2 = (k * 4 + 2) + 1 + 1 + 1 + 1 by omega, show k * 4 + 1 + 1 + 1 + 1 + 3 = (k * 4 + 3) + 1 + 1 + 1 + 1 by omega]
    simp only [List.set_cons_succ]
/-- Stokes numbers that lie from a place on. -/
def StAt (w : World) (b o : Nat) (m : Mt) : Prop := FAt w b o m.a ∧ FAt w b (o + 3) m.b ∧ FAt w b (o + 6) m.c ∧ FAt w b (o + 9) m.d
theorem StAt.below {w w' : World} {b o B : Nat} {m : Mt} (h : StAt w b o m) (hb : Below B w w') (hlt : b < B) : StAt w' b o m := ⟨h.1.below hb hlt, h.2.1.below hb hlt, h.2.2.1.below hb hlt, h.2.2.2.below hb hlt⟩
/-- A list of Stokes numbers that lies in the world, to be read. -/
def Sts (A : Option Addr) (len cap : Nat) (ms : List Mt) (w : World) : Prop := ms.length = len ∧ len ≤ cap ∧ cap ≤ 9223372036854775807 ∧
  (0 < len → ∃ bb off : Nat, A = some ⟨bb, off, none⟩ ∧ bb < w.heap.size ∧ ∀ k m, ms[k]? = some m → StAt w bb (off + k * 12) m)
theorem Sts.below {A : Option Addr} {len cap : Nat} {ms : List Mt} {w w' : World} (h : Sts A len cap ms w) (hb : Below w.heap.size w w') : Sts A len cap ms w' := by
  obtain ⟨h1, h2, h3, h4⟩ := h
  refine ⟨h1, h2, h3, fun h0 => ?_⟩
  obtain ⟨bb, off, e, hbb, hc⟩ := h4 h0
  exact ⟨bb, off, e, Nat.lt_of_lt_of_le hbb hb.size, fun k m hk => (hc k m hk).below hb hbb⟩
theorem Sts.at {A : Option Addr} {len cap : Nat} {ms : List Mt} {w : World} (h : Sts A len cap ms w) {w' : World} (hb : Below w.heap.size w w') {k : Nat} (hk : k < len) :
    ∃ (bb off : Nat) (m : Mt), A = some ⟨bb, off, none⟩ ∧ bb < w.heap.size ∧ ms[k]? = some m ∧ StAt w' bb (off + k * 12) m := by
  obtain ⟨h1, h2, h3, h4⟩ := h
  obtain ⟨bb, off, e, hbb, hc⟩ := h4 (by omega)
  have hs : ms[k]? = some (ms[k]'(by omega)) := List.getElem?_eq_getElem (by omega)
  exact ⟨bb, off, _, e, hbb, hs, (hc k _ hs).below hb hbb⟩
/-- A list of Stokes numbers that the call made. -/
def OwS (base : Nat) (v : Value) (ms : List Mt) (w : World) : Prop := w.ownsRow base 42 12 v ms.length (rowF (flatS ms))
theorem OwS.below {base : Nat} {v : Value} {ms : List Mt} {w w' : World} (h : OwS base v ms w) (hb : Below w.heap.size w w') : OwS base v ms w' := by
  refine ⟨h.1, ?_⟩
  rcases h.2 with hn | ⟨g, cap, cur, rfl, hbg, hg, rest⟩
  · exact .inl hn
  · exact .inr ⟨g, cap, cur, rfl, hbg, (hb.block g (Array.getElem?_eq_some_iff.1 hg).1).trans hg, rest⟩
theorem OwS.alloc {base : Nat} {v : Value} {ms : List Mt} {w : World} (h : OwS base v ms w) (o : Obj) : OwS base v ms (w.alloc o) := h.below ((Below.refl _ _).alloc (Nat.le_refl _) o)
theorem OwS.sts {base : Nat} {v : Value} {ms : List Mt} {w : World} (h : OwS base v ms w) : ∃ A cap, v = .slice A ms.length cap ∧ Sts A ms.length cap ms w := by
  rcases h.2 with ⟨rfl, h0⟩ | ⟨g, cap, cur, rfl, hbg, hg, hn, hm, hs, ht⟩
  · exact ⟨none, 0, by rw [h0], rfl, by omega, by omega, fun h => by omega⟩
  · have hlt := (Array.getElem?_eq_some_iff.1 hg).1
    have hc := World.ownsRow.cells h (g := g) rfl
    have key : ∀ i s, (flatS ms)[i]? = some s → FAt w g (i * 3) s := by
      intro i s hi
      have kk : ∀ j u, (fracL s)[j]? = some u → w.cell? ⟨g, i * 3 + j, none⟩ = some u := fun j u hj => by
        have hj4 : j < 3 := by have := (List.getElem?_eq_some_iff.1 hj).1; simpa [fracL] using this
        have := hc (i * 3 + j) u ((rowF_get _ i s hi j hj4).trans hj)
        rwa [add_noneF] at this
      exact ⟨kk 0 _ rfl, kk 1 _ rfl, kk 2 _ rfl⟩
    refine ⟨some ⟨g, 0, none⟩, cap, rfl, rfl, hn, by unfold maxLen at hm; omega, fun _ => ⟨g, 0, rfl, hlt, fun k m hk => ?_⟩⟩
    have q := flatS_get ms k m hk
    have k0 := key _ _ (q 0 (by omega))
    have k1 := key _ _ (q 1 (by omega))
    have k2 := key _ _ (q 2 (by omega))
    have k3 := key _ _ (q 3 (by omega))
    rw [show (k * 4 + 0) * 3 = 0 + k * 12 by omega] at k0
    rw [show (k * 4 + 1) * 3 = 0 + k * 12 + 3 by omega] at k1
    rw [show (k * 4 + 2) * 3 = 0 + k * 12 + 6 by omega] at k2
    rw [show (k * 4 + 3) * 3 = 0 + k * 12 + 9 by omega] at k3
    exact ⟨k0, k1, k2, k3⟩
theorem OwS.read {base n cap : Nat} {A : Option Addr} {ms : List Mt} {w : World} (h : OwS base (.slice A n cap) ms w) : n = ms.length ∧ Sts A ms.length cap ms w := by
  obtain ⟨A1, c1, e, hF⟩ := h.sts
  simp only [Value.slice.injEq] at e
  obtain ⟨rfl, rfl, rfl⟩ := e
  exact ⟨rfl, hF⟩
theorem put1 {base e size n : Nat} {v : Value} {ys : List Fr} {w : World} (h : w.ownsRow base e size v n (rowF ys)) {g : Nat} (hg : v.ownBlock = some g) (i : Nat) (hi : i < ys.length) (s : Fr) (o : Nat) (ho : o = i * 3) :
    (((w.setCell ⟨g, o, none⟩ (.int .i64 s.re)).setCell ⟨g, o + 1, none⟩ (.int .i64 s.im)).setCell ⟨g, o + 2, none⟩ (.int .i64 s.den)).ownsRow base e size v n (rowF (ys.set i s)) := by
  subst ho
  have hl := rowF_length ys
  have h1 := ownsRow_setF h hg (i * 3) (by omega) (.int .i64 s.re) rfl
  have h2 := ownsRow_setF h1 hg (i * 3 + 1) (by rw [List.length_set]; omega) (.int .i64 s.im) rfl
  have h3 := ownsRow_setF h2 hg (i * 3 + 2) (by rw [List.length_set, List.length_set]; omega) (.int .i64 s.den) rfl
  rwa [rowF_put ys i s hi] at h3
def set3 (w : World) (g o : Nat) (s : Fr) : World := ((w.setCell ⟨g, o, none⟩ (.int .i64 s.re)).setCell ⟨g, o + 1, none⟩ (.int .i64 s.im)).setCell ⟨g, o + 2, none⟩ (.int .i64 s.den)
theorem OwS.put {base : Nat} {v : Value} {ms : List Mt} {w : World} (h : OwS base v ms w) {g : Nat} (hg : v.ownBlock = some g) (k : Nat) (hk : k < ms.length) (m : Mt) :
    OwS base v (ms.set k m) (set3 (set3 (set3 (set3 w g (k * 12) m.a) g (k * 12 + 3) m.b) g (k * 12 + 6) m.c) g (k * 12 + 9) m.d) := by
  have hl := flatS_len ms
  have h1 := put1 h hg (k * 4) (by omega) m.a (k * 12) (by omega)
  have h2 := put1 h1 hg (k * 4 + 1) (by rw [List.length_set]; omega) m.b (k * 12 + 3) (by omega)
  have h3 := put1 h2 hg (k * 4 + 2) (by rw [List.length_set, List.length_set]; omega) m.c (k * 12 + 6) (by omega)
  have h4 := put1 h3 hg (k * 4 + 3) (by rw [List.length_set, List.length_set, List.length_set]; omega) m.d (k * 12 + 9) (by omega)
  rw [flatS_set ms k m hk] at h4
  unfold OwS
  rw [List.length_set]
  exact h4
set_option maxRecDepth 100000 in
set_option maxHeartbeats 4000000 in
theorem eqA4_refl (m : Mt) (w : World) :
    Calls Tryd.prog 10 #[mtv m, mtv m] w fun e w' => e = .returned (.bool true) ∧ Below w.heap.size w w' := by
  have hM0 : MtAt (w.alloc (.cells #[.int .i64 m.a.re, .int .i64 m.a.im, .int .i64 m.a.den, .int .i64 m.b.re, .int .i64 m.b.im, .int .i64 m.b.den, .int .i64 m.c.re, .int .i64 m.c.im, .int .i64 m.c.den, .int .i64 m.d.re, .int .i64 m.d.im, .int .i64 m.d.den] 28)) w.heap.size m := MtAt.new w m _
  have hN0 : MtAt ((w.alloc (.cells #[.int .i64 m.a.re, .int .i64 m.a.im, .int .i64 m.a.den, .int .i64 m.b.re, .int .i64 m.b.im, .int .i64 m.b.den, .int .i64 m.c.re, .int .i64 m.c.im, .int .i64 m.c.den, .int .i64 m.d.re, .int .i64 m.d.im, .int .i64 m.d.den] 28)).alloc (.cells #[.int .i64 m.a.re, .int .i64 m.a.im, .int .i64 m.a.den, .int .i64 m.b.re, .int .i64 m.b.im, .int .i64 m.b.den, .int .i64 m.c.re, .int .i64 m.c.im, .int .i64 m.c.den, .int .i64 m.d.re, .int .i64 m.d.im, .int .i64 m.d.den] 28)) (w.heap.size + 1) m := by
    have := MtAt.new (w.alloc (.cells #[.int .i64 m.a.re, .int .i64 m.a.im, .int .i64 m.a.den, .int .i64 m.b.re, .int .i64 m.b.im, .int .i64 m.b.den, .int .i64 m.c.re, .int .i64 m.c.im, .int .i64 m.c.den, .int .i64 m.d.re, .int .i64 m.d.im, .int .i64 m.d.den] 28)) m 28
    rwa [World.size_alloc] at this
  go_enter Tryd.func10, Tryd.ntmps10
  go_wp2
  refine wp_loop_rounds 5 ?_
  rw [rounds_succ]
  go_wp2
  go_region_held3 (fun w' => (w'.cell? ⟨w.heap.size, 0, none⟩ = some (.int .i64 m.a.re) ∧ w'.cell? ⟨w.heap.size, 1, none⟩ = some (.int .i64 m.a.im) ∧ w'.cell? ⟨w.heap.size, 2, none⟩ = some (.int .i64 m.a.den) ∧ w'.cell? ⟨w.heap.size, 3, none⟩ = some (.int .i64 m.b.re) ∧ w'.cell? ⟨w.heap.size, 4, none⟩ = some (.int .i64 m.b.im) ∧ w'.cell? ⟨w.heap.size, 5, none⟩ = some (.int .i64 m.b.den) ∧ w'.cell? ⟨w.heap.size, 6, none⟩ = some (.int .i64 m.c.re) ∧ w'.cell? ⟨w.heap.size, 7, none⟩ = some (.int .i64 m.c.im) ∧ w'.cell? ⟨w.heap.size, 8, none⟩ = some (.int .i64 m.c.den) ∧ w'.cell? ⟨w.heap.size, 9, none⟩ = some (.int .i64 m.d.re) ∧ w'.cell? ⟨w.heap.size, 10, none⟩ = some (.int .i64 m.d.im) ∧ w'.cell? ⟨w.heap.size, 11, none⟩ = some (.int .i64 m.d.den)) ∧ (w'.cell? ⟨w.heap.size + 1, 0, none⟩ = some (.int .i64 m.a.re) ∧ w'.cell? ⟨w.heap.size + 1, 1, none⟩ = some (.int .i64 m.a.im) ∧ w'.cell? ⟨w.heap.size + 1, 2, none⟩ = some (.int .i64 m.a.den) ∧ w'.cell? ⟨w.heap.size + 1, 3, none⟩ = some (.int .i64 m.b.re) ∧ w'.cell? ⟨w.heap.size + 1, 4, none⟩ = some (.int .i64 m.b.im) ∧ w'.cell? ⟨w.heap.size + 1, 5, none⟩ = some (.int .i64 m.b.den) ∧ w'.cell? ⟨w.heap.size + 1, 6, none⟩ = some (.int .i64 m.c.re) ∧ w'.cell? ⟨w.heap.size + 1, 7, none⟩ = some (.int .i64 m.c.im) ∧ w'.cell? ⟨w.heap.size + 1, 8, none⟩ = some (.int .i64 m.c.den) ∧ w'.cell? ⟨w.heap.size + 1, 9, none⟩ = some (.int .i64 m.d.re) ∧ w'.cell? ⟨w.heap.size + 1, 10, none⟩ = some (.int .i64 m.d.im) ∧ w'.cell? ⟨w.heap.size + 1, 11, none⟩ = some (.int .i64 m.d.den))) ((refine And.intro ?_ ?_; (show MtAt _ w.heap.size m; (repeat' (first | (with_reducible assumption) | (with_reducible exact MtAt.new _ _ _) | (with_reducible apply MtAt.alloc) | (with_reducible apply MtAt.drewN) | (with_reducible apply MtAt.drew) | (with_reducible refine MtAt.far ?_ (by first | omega | (simp; done) | (simp; omega)) _)))); (show MtAt _ (w.heap.size + 1) m; (repeat' (first | (with_reducible assumption) | (with_reducible exact MtAt.new _ _ _) | (with_reducible apply MtAt.alloc) | (with_reducible apply MtAt.drewN) | (with_reducible apply MtAt.drew) | (with_reducible refine MtAt.far ?_ (by first | omega | (simp; done) | (simp; omega)) _)))))) (first | (go_at_call 19; (with_reducible refine (eqFrac_refl m.a _).mono ?_); rintro e w1 ⟨rfl, hb⟩; obtain ⟨hc, hf⟩ := bf hb (w.heap.size + 1 + 1) (by first | omega | (simp; done) | (simp; omega)); have hs := hb.size; (try simp only [World.size_alloc, World.size_setCell, World.size_drew, World.heap_drewN] at hs); have hl : w.heap.size ≤ w1.heap.size ∧ w.heap.size < w1.heap.size ∧ w.heap.size + 1 < w1.heap.size := ⟨by omega, by omega, by omega⟩; obtain ⟨B, hBe, hBl, hc2, hf2⟩ := bfA hb; (try simp only [World.size_alloc, World.size_setCell, World.size_drew, World.heap_drewN] at hBe); have hB : Below w.heap.size w w1 := bstep (by (repeat' (first | (with_reducible exact Below.refl _ _) | (with_reducible assumption) | (with_reducible refine Below.setCell ?_ (by first | omega | (simp; done) | (simp; omega)) _) | (with_reducible refine Below.alloc ?_ (by first | omega | (simp; done) | (simp; omega)) _) | (with_reducible refine below_drewN ?_ _) | (with_reducible refine Below.drew ?_)))) hb (by first | omega | (simp; done) | (simp; omega)); have hM : MtAt w1 (w.heap.size) (m) := (by refine MtAt.below (w := _) ?_ hb ?_; (repeat' (first | (with_reducible assumption) | (with_reducible exact MtAt.new _ _ _) | (with_reducible apply MtAt.alloc) | (with_reducible apply MtAt.drewN) | (with_reducible apply MtAt.drew) | (with_reducible refine MtAt.far ?_ (by first | omega | (simp; done) | (simp; omega)) _))); first | done | omega | (simp; done) | (simp; omega)); have hM : MtAt w1 (w.heap.size + 1) (m) := (by refine MtAt.below (w := _) ?_ hb ?_; (repeat' (first | (with_reducible assumption) | (with_reducible exact MtAt.new _ _ _) | (with_reducible apply MtAt.alloc) | (with_reducible apply MtAt.drewN) | (with_reducible apply MtAt.drew) | (with_reducible refine MtAt.far ?_ (by first | omega | (simp; done) | (simp; omega)) _))); first | done | omega | (simp; done) | (simp; omega)); have hzM : w.heap.size + 1 < w1.heap.size := (by refine Nat.lt_of_lt_of_le ?_ hb.size; first | omega | (simp; done) | (simp; omega)); clear hs hb))
  go_wp2
  rw [rounds_succ]
  go_wp2
  go_region_held3 (fun w' => (w'.cell? ⟨w.heap.size, 0, none⟩ = some (.int .i64 m.a.re) ∧ w'.cell? ⟨w.heap.size, 1, none⟩ = some (.int .i64 m.a.im) ∧ w'.cell? ⟨w.heap.size, 2, none⟩ = some (.int .i64 m.a.den) ∧ w'.cell? ⟨w.heap.size, 3, none⟩ = some (.int .i64 m.b.re) ∧ w'.cell? ⟨w.heap.size, 4, none⟩ = some (.int .i64 m.b.im) ∧ w'.cell? ⟨w.heap.size, 5, none⟩ = some (.int .i64 m.b.den) ∧ w'.cell? ⟨w.heap.size, 6, none⟩ = some (.int .i64 m.c.re) ∧ w'.cell? ⟨w.heap.size, 7, none⟩ = some (.int .i64 m.c.im) ∧ w'.cell? ⟨w.heap.size, 8, none⟩ = some (.int .i64 m.c.den) ∧ w'.cell? ⟨w.heap.size, 9, none⟩ = some (.int .i64 m.d.re) ∧ w'.cell? ⟨w.heap.size, 10, none⟩ = some (.int .i64 m.d.im) ∧ w'.cell? ⟨w.heap.size, 11, none⟩ = some (.int .i64 m.d.den)) ∧ (w'.cell? ⟨w.heap.size + 1, 0, none⟩ = some (.int .i64 m.a.re) ∧ w'.cell? ⟨w.heap.size + 1, 1, none⟩ = some (.int .i64 m.a.im) ∧ w'.cell? ⟨w.heap.size + 1, 2, none⟩ = some (.int .i64 m.a.den) ∧ w'.cell? ⟨w.heap.size + 1, 3, none⟩ = some (.int .i64 m.b.re) ∧ w'.cell? ⟨w.heap.size + 1, 4, none⟩ = some (.int .i64 m.b.im) ∧ w'.cell? ⟨w.heap.size + 1, 5, none⟩ = some (.int .i64 m.b.den) ∧ w'.cell? ⟨w.heap.size + 1, 6, none⟩ = some (.int .i64 m.c.re) ∧ w'.cell? ⟨w.heap.size + 1, 7, none⟩ = some (.int .i64 m.c.im) ∧ w'.cell? ⟨w.heap.size + 1, 8, none⟩ = some (.int .i64 m.c.den) ∧ w'.cell? ⟨w.heap.size + 1, 9, none⟩ = some (.int .i64 m.d.re) ∧ w'.cell? ⟨w.heap.size + 1, 10, none⟩ = some (.int .i64 m.d.im) ∧ w'.cell? ⟨w.heap.size + 1, 11, none⟩ = some (.int .i64 m.d.den))) ((refine And.intro ?_ ?_; (show MtAt _ w.heap.size m; (repeat' (first | (with_reducible assumption) | (with_reducible exact MtAt.new _ _ _) | (with_reducible apply MtAt.alloc) | (with_reducible apply MtAt.drewN) | (with_reducible apply MtAt.drew) | (with_reducible refine MtAt.far ?_ (by first | omega | (simp; done) | (simp; omega)) _)))); (show MtAt _ (w.heap.size + 1) m; (repeat' (first | (with_reducible assumption) | (with_reducible exact MtAt.new _ _ _) | (with_reducible apply MtAt.alloc) | (with_reducible apply MtAt.drewN) | (with_reducible apply MtAt.drew) | (with_reducible refine MtAt.far ?_ (by first | omega | (simp; done) | (simp; omega)) _)))))) (first | (go_at_call 19; (with_reducible refine (eqFrac_refl m.b _).mono ?_); rintro e w1 ⟨rfl, hb⟩; obtain ⟨hc, hf⟩ := bf hb (w.heap.size + 1 + 1) (by first | omega | (simp; done) | (simp; omega)); have hs := hb.size; (try simp only [World.size_alloc, World.size_setCell, World.size_drew, World.heap_drewN] at hs); have hl : w.heap.size ≤ w1.heap.size ∧ w.heap.size < w1.heap.size ∧ w.heap.size + 1 < w1.heap.size := ⟨by omega, by omega, by omega⟩; obtain ⟨B, hBe, hBl, hc2, hf2⟩ := bfA hb; (try simp only [World.size_alloc, World.size_setCell, World.size_drew, World.heap_drewN] at hBe); have hB : Below w.heap.size w w1 := bstep (by (repeat' (first | (with_reducible exact Below.refl _ _) | (with_reducible assumption) | (with_reducible refine Below.setCell ?_ (by first | omega | (simp; done) | (simp; omega)) _) | (with_reducible refine Below.alloc ?_ (by first | omega | (simp; done) | (simp; omega)) _) | (with_reducible refine below_drewN ?_ _) | (with_reducible refine Below.drew ?_)))) hb (by first | omega | (simp; done) | (simp; omega)); have hM : MtAt w1 (w.heap.size) (m) := (by refine MtAt.below (w := _) ?_ hb ?_; (repeat' (first | (with_reducible assumption) | (with_reducible exact MtAt.new _ _ _) | (with_reducible apply MtAt.alloc) | (with_reducible apply MtAt.drewN) | (with_reducible apply MtAt.drew) | (with_reducible refine MtAt.far ?_ (by first | omega | (simp; done) | (simp; omega)) _))); first | done | omega | (simp; done) | (simp; omega)); have hM : MtAt w1 (w.heap.size + 1) (m) := (by refine MtAt.below (w := _) ?_ hb ?_; (repeat' (first | (with_reducible assumption) | (with_reducible exact MtAt.new _ _ _) | (with_reducible apply MtAt.alloc) | (with_reducible apply MtAt.drewN) | (with_reducible apply MtAt.drew) | (with_reducible refine MtAt.far ?_ (by first | omega | (simp; done) | (simp; omega)) _))); first | done | omega | (simp; done) | (simp; omega)); have hzM : w.heap.size + 1 < w1.heap.size := (by refine Nat.lt_of_lt_of_le ?_ hb.size; first | omega | (simp; done) | (simp; omega)); clear hs hb))
  go_wp2
  rw [rounds_succ]
  go_wp2
  go_region_held3 (fun w' => (w'.cell? ⟨w.heap.size, 0, none⟩ = some (.int .i64 m.a.re) ∧ w'.cell? ⟨w.heap.size, 1, none⟩ = some (.int .i64 m.a.im) ∧ w'.cell? ⟨w.heap.size, 2, none⟩ = some (.int .i64 m.a.den) ∧ w'.cell? ⟨w.heap.size, 3, none⟩ = some (.int .i64 m.b.re) ∧ w'.cell? ⟨w.heap.size, 4, none⟩ = some (.int .i64 m.b.im) ∧ w'.cell? ⟨w.heap.size, 5, none⟩ = some (.int .i64 m.b.den) ∧ w'.cell? ⟨w.heap.size, 6, none⟩ = some (.int .i64 m.c.re) ∧ w'.cell? ⟨w.heap.size, 7, none⟩ = some (.int .i64 m.c.im) ∧ w'.cell? ⟨w.heap.size, 8, none⟩ = some (.int .i64 m.c.den) ∧ w'.cell? ⟨w.heap.size, 9, none⟩ = some (.int .i64 m.d.re) ∧ w'.cell? ⟨w.heap.size, 10, none⟩ = some (.int .i64 m.d.im) ∧ w'.cell? ⟨w.heap.size, 11, none⟩ = some (.int .i64 m.d.den)) ∧ (w'.cell? ⟨w.heap.size + 1, 0, none⟩ = some (.int .i64 m.a.re) ∧ w'.cell? ⟨w.heap.size + 1, 1, none⟩ = some (.int .i64 m.a.im) ∧ w'.cell? ⟨w.heap.size + 1, 2, none⟩ = some (.int .i64 m.a.den) ∧ w'.cell? ⟨w.heap.size + 1, 3, none⟩ = some (.int .i64 m.b.re) ∧ w'.cell? ⟨w.heap.size + 1, 4, none⟩ = some (.int .i64 m.b.im) ∧ w'.cell? ⟨w.heap.size + 1, 5, none⟩ = some (.int .i64 m.b.den) ∧ w'.cell? ⟨w.heap.size + 1, 6, none⟩ = some (.int .i64 m.c.re) ∧ w'.cell? ⟨w.heap.size + 1, 7, none⟩ = some (.int .i64 m.c.im) ∧ w'.cell? ⟨w.heap.size + 1, 8, none⟩ = some (.int .i64 m.c.den) ∧ w'.cell? ⟨w.heap.size + 1, 9, none⟩ = some (.int .i64 m.d.re) ∧ w'.cell? ⟨w.heap.size + 1, 10, none⟩ = some (.int .i64 m.d.im) ∧ w'.cell? ⟨w.heap.size + 1, 11, none⟩ = some (.int .i64 m.d.den))) ((refine And.intro ?_ ?_; (show MtAt _ w.heap.size m; (repeat' (first | (with_reducible assumption) | (with_reducible exact MtAt.new _ _ _) | (with_reducible apply MtAt.alloc) | (with_reducible apply MtAt.drewN) | (with_reducible apply MtAt.drew) | (with_reducible refine MtAt.far ?_ (by first | omega | (simp; done) | (simp; omega)) _)))); (show MtAt _ (w.heap.size + 1) m; (repeat' (first | (with_reducible assumption) | (with_reducible exact MtAt.new _ _ _) | (with_reducible apply MtAt.alloc) | (with_reducible apply MtAt.drewN) | (with_reducible apply MtAt.drew) | (with_reducible refine MtAt.far ?_ (by first | omega | (simp; done) | (simp; omega)) _)))))) (first | (go_at_call 19; (with_reducible refine (eqFrac_refl m.c _).mono ?_); rintro e w1 ⟨rfl, hb⟩; obtain ⟨hc, hf⟩ := bf hb (w.heap.size + 1 + 1) (by first | omega | (simp; done) | (simp; omega)); have hs := hb.size; (try simp only [World.size_alloc, World.size_setCell, World.size_drew, World.heap_drewN] at hs); have hl : w.heap.size ≤ w1.heap.size ∧ w.heap.size < w1.heap.size ∧ w.heap.size + 1 < w1.heap.size := ⟨by omega, by omega, by omega⟩; obtain ⟨B, hBe, hBl, hc2, hf2⟩ := bfA hb; (try simp only [World.size_alloc, World.size_setCell, World.size_drew, World.heap_drewN] at hBe); have hB : Below w.heap.size w w1 := bstep (by (repeat' (first | (with_reducible exact Below.refl _ _) | (with_reducible assumption) | (with_reducible refine Below.setCell ?_ (by first | omega | (simp; done) | (simp; omega)) _) | (with_reducible refine Below.alloc ?_ (by first | omega | (simp; done) | (simp; omega)) _) | (with_reducible refine below_drewN ?_ _) | (with_reducible refine Below.drew ?_)))) hb (by first | omega | (simp; done) | (simp; omega)); have hM : MtAt w1 (w.heap.size) (m) := (by refine MtAt.below (w := _) ?_ hb ?_; (repeat' (first | (with_reducible assumption) | (with_reducible exact MtAt.new _ _ _) | (with_reducible apply MtAt.alloc) | (with_reducible apply MtAt.drewN) | (with_reducible apply MtAt.drew) | (with_reducible refine MtAt.far ?_ (by first | omega | (simp; done) | (simp; omega)) _))); first | done | omega | (simp; done) | (simp; omega)); have hM : MtAt w1 (w.heap.size + 1) (m) := (by refine MtAt.below (w := _) ?_ hb ?_; (repeat' (first | (with_reducible assumption) | (with_reducible exact MtAt.new _ _ _) | (with_reducible apply MtAt.alloc) | (with_reducible apply MtAt.drewN) | (with_reducible apply MtAt.drew) | (with_reducible refine MtAt.far ?_ (by first | omega | (simp; done) | (simp; omega)) _))); first | done | omega | (simp; done) | (simp; omega)); have hzM : w.heap.size + 1 < w1.heap.size := (by refine Nat.lt_of_lt_of_le ?_ hb.size; first | omega | (simp; done) | (simp; omega)); clear hs hb))
  go_wp2
  rw [rounds_succ]
  go_wp2
  go_region_held3 (fun w' => (w'.cell? ⟨w.heap.size, 0, none⟩ = some (.int .i64 m.a.re) ∧ w'.cell? ⟨w.heap.size, 1, none⟩ = some (.int .i64 m.a.im) ∧ w'.cell? ⟨w.heap.size, 2, none⟩ = some (.int .i64 m.a.den) ∧ w'.cell? ⟨w.heap.size, 3, none⟩ = some (.int .i64 m.b.re) ∧ w'.cell? ⟨w.heap.size, 4, none⟩ = some (.int .i64 m.b.im) ∧ w'.cell? ⟨w.heap.size, 5, none⟩ = some (.int .i64 m.b.den) ∧ w'.cell? ⟨w.heap.size, 6, none⟩ = some (.int .i64 m.c.re) ∧ w'.cell? ⟨w.heap.size, 7, none⟩ = some (.int .i64 m.c.im) ∧ w'.cell? ⟨w.heap.size, 8, none⟩ = some (.int .i64 m.c.den) ∧ w'.cell? ⟨w.heap.size, 9, none⟩ = some (.int .i64 m.d.re) ∧ w'.cell? ⟨w.heap.size, 10, none⟩ = some (.int .i64 m.d.im) ∧ w'.cell? ⟨w.heap.size, 11, none⟩ = some (.int .i64 m.d.den)) ∧ (w'.cell? ⟨w.heap.size + 1, 0, none⟩ = some (.int .i64 m.a.re) ∧ w'.cell? ⟨w.heap.size + 1, 1, none⟩ = some (.int .i64 m.a.im) ∧ w'.cell? ⟨w.heap.size + 1, 2, none⟩ = some (.int .i64 m.a.den) ∧ w'.cell? ⟨w.heap.size + 1, 3, none⟩ = some (.int .i64 m.b.re) ∧ w'.cell? ⟨w.heap.size + 1, 4, none⟩ = some (.int .i64 m.b.im) ∧ w'.cell? ⟨w.heap.size + 1, 5, none⟩ = some (.int .i64 m.b.den) ∧ w'.cell? ⟨w.heap.size + 1, 6, none⟩ = some (.int .i64 m.c.re) ∧ w'.cell? ⟨w.heap.size + 1, 7, none⟩ = some (.int .i64 m.c.im) ∧ w'.cell? ⟨w.heap.size + 1, 8, none⟩ = some (.int .i64 m.c.den) ∧ w'.cell? ⟨w.heap.size + 1, 9, none⟩ = some (.int .i64 m.d.re) ∧ w'.cell? ⟨w.heap.size + 1, 10, none⟩ = some (.int .i64 m.d.im) ∧ w'.cell? ⟨w.heap.size + 1, 11, none⟩ = some (.int .i64 m.d.den))) ((refine And.intro ?_ ?_; (show MtAt _ w.heap.size m; (repeat' (first | (with_reducible assumption) | (with_reducible exact MtAt.new _ _ _) | (with_reducible apply MtAt.alloc) | (with_reducible apply MtAt.drewN) | (with_reducible apply MtAt.drew) | (with_reducible refine MtAt.far ?_ (by first | omega | (simp; done) | (simp; omega)) _)))); (show MtAt _ (w.heap.size + 1) m; (repeat' (first | (with_reducible assumption) | (with_reducible exact MtAt.new _ _ _) | (with_reducible apply MtAt.alloc) | (with_reducible apply MtAt.drewN) | (with_reducible apply MtAt.drew) | (with_reducible refine MtAt.far ?_ (by first | omega | (simp; done) | (simp; omega)) _)))))) (first | (go_at_call 19; (with_reducible refine (eqFrac_refl m.d _).mono ?_); rintro e w1 ⟨rfl, hb⟩; obtain ⟨hc, hf⟩ := bf hb (w.heap.size + 1 + 1) (by first | omega | (simp; done) | (simp; omega)); have hs := hb.size; (try simp only [World.size_alloc, World.size_setCell, World.size_drew, World.heap_drewN] at hs); have hl : w.heap.size ≤ w1.heap.size ∧ w.heap.size < w1.heap.size ∧ w.heap.size + 1 < w1.heap.size := ⟨by omega, by omega, by omega⟩; obtain ⟨B, hBe, hBl, hc2, hf2⟩ := bfA hb; (try simp only [World.size_alloc, World.size_setCell, World.size_drew, World.heap_drewN] at hBe); have hB : Below w.heap.size w w1 := bstep (by (repeat' (first | (with_reducible exact Below.refl _ _) | (with_reducible assumption) | (with_reducible refine Below.setCell ?_ (by first | omega | (simp; done) | (simp; omega)) _) | (with_reducible refine Below.alloc ?_ (by first | omega | (simp; done) | (simp; omega)) _) | (with_reducible refine below_drewN ?_ _) | (with_reducible refine Below.drew ?_)))) hb (by first | omega | (simp; done) | (simp; omega)); have hM : MtAt w1 (w.heap.size) (m) := (by refine MtAt.below (w := _) ?_ hb ?_; (repeat' (first | (with_reducible assumption) | (with_reducible exact MtAt.new _ _ _) | (with_reducible apply MtAt.alloc) | (with_reducible apply MtAt.drewN) | (with_reducible apply MtAt.drew) | (with_reducible refine MtAt.far ?_ (by first | omega | (simp; done) | (simp; omega)) _))); first | done | omega | (simp; done) | (simp; omega)); have hM : MtAt w1 (w.heap.size + 1) (m) := (by refine MtAt.below (w := _) ?_ hb ?_; (repeat' (first | (with_reducible assumption) | (with_reducible exact MtAt.new _ _ _) | (with_reducible apply MtAt.alloc) | (with_reducible apply MtAt.drewN) | (with_reducible apply MtAt.drew) | (with_reducible refine MtAt.far ?_ (by first | omega | (simp; done) | (simp; omega)) _))); first | done | omega | (simp; done) | (simp; omega)); have hzM : w.heap.size + 1 < w1.heap.size := (by refine Nat.lt_of_lt_of_le ?_ hb.size; first | omega | (simp; done) | (simp; omega)); clear hs hb))
  go_wp2
  rw [rounds_succ]
  go_wp2
  go_ret
  exact ⟨rfl, by (repeat' (first | (with_reducible exact Below.refl _ _) | (with_reducible assumption) | (with_reducible refine Below.setCell ?_ (by first | omega | (simp; done) | (simp; omega)) _) | (with_reducible refine Below.alloc ?_ (by first | omega | (simp; done) | (simp; omega)) _) | (with_reducible refine below_drewN ?_ _) | (with_reducible refine Below.drew ?_)))⟩
set_option maxRecDepth 100000 in
set_option maxHeartbeats 1000000 in
theorem eqStk_refl (m : Mt) (w : World) :
    Calls Tryd.prog 20 #[mtv m, mtv m] w fun e w' => e = .returned (.bool true) ∧ Below w.heap.size w w' := by
  go_enter Tryd.func20, Tryd.ntmps20
  go_wp2_with (first | (go_at_call 10; (with_reducible refine (eqA4_refl m _).mono ?_); rintro e w1 ⟨rfl, hb⟩; obtain ⟨hc, hf⟩ := bf hb (w.heap.size + 1 + 1) (by first | omega | (simp; done) | (simp; omega)); have hs := hb.size; (try simp only [World.size_alloc, World.size_setCell, World.size_drew, World.heap_drewN] at hs); have hl : w.heap.size ≤ w1.heap.size ∧ w.heap.size < w1.heap.size ∧ w.heap.size + 1 < w1.heap.size := ⟨by omega, by omega, by omega⟩; have hB : Below w.heap.size w w1 := bstep (by (repeat' (first | (with_reducible exact Below.refl _ _) | (with_reducible assumption) | (with_reducible refine Below.setCell ?_ (by first | omega | (simp; done) | (simp; omega)) _) | (with_reducible refine Below.alloc ?_ (by first | omega | (simp; done) | (simp; omega)) _) | (with_reducible refine below_drewN ?_ _) | (with_reducible refine Below.drew ?_)))) hb (by first | omega | (simp; done) | (simp; omega)); clear hs hb))
  go_ret
  exact ⟨rfl, by (repeat' (first | (with_reducible exact Below.refl _ _) | (with_reducible assumption) | (with_reducible refine Below.setCell ?_ (by first | omega | (simp; done) | (simp; omega)) _) | (with_reducible refine Below.alloc ?_ (by first | omega | (simp; done) | (simp; omega)) _) | (with_reducible refine below_drewN ?_ _) | (with_reducible refine Below.drew ?_)))⟩
theorem szS_any (A : Option Addr) (len cap : Nat) (n : Int) (w : World) (h : (len : Int) ≤ n) (hn : n ≤ 1048576) :
    Calls Tryd.prog 4 #[.slice A len cap, .int .i64 n] w fun e w' => e = .returned (.int .i64 (n - len)) ∧ Below w.heap.size w w' := by
  go_enter Tryd.func4, Tryd.ntmps4
  go_wp2
  all_goals go_ret
  all_goals exact ⟨by go_num, by (repeat' (first | (with_reducible exact Below.refl _ _) | (with_reducible assumption) | (with_reducible refine Below.setCell ?_ (by first | omega | (simp; done) | (simp; omega)) _) | (with_reducible refine Below.alloc ?_ (by first | omega | (simp; done) | (simp; omega)) _) | (with_reducible refine below_drewN ?_ _) | (with_reducible refine Below.drew ?_)))⟩
theorem szS_far (A : Option Addr) (len cap : Nat) (w : World) (h : 1048576 < len) (h2 : len ≤ 9223372036854775807) :
    Calls Tryd.prog 4 #[.slice A len cap, .int .i64 1048576] w fun e w' => e = .returned (.int .i64 (-1)) ∧ Below w.heap.size w w' := by
  go_enter Tryd.func4, Tryd.ntmps4
  go_wp2
  all_goals go_ret
  all_goals exact ⟨by go_num, by (repeat' (first | (with_reducible exact Below.refl _ _) | (with_reducible assumption) | (with_reducible refine Below.setCell ?_ (by first | omega | (simp; done) | (simp; omega)) _) | (with_reducible refine Below.alloc ?_ (by first | omega | (simp; done) | (simp; omega)) _) | (with_reducible refine below_drewN ?_ _) | (with_reducible refine Below.drew ?_)))⟩
set_option maxRecDepth 100000 in
set_option maxHeartbeats 4000000 in
theorem toA4_any (m : Mt) (w : World) :
    Calls Tryd.prog 25 #[mtv m] w fun e w' => e = .returned (mtv m) ∧ Below w.heap.size w w' := by
  go_enter Tryd.func25, Tryd.ntmps25
  go_wp2
  refine wp_loop_rounds 5 ?_
  repeat (rw [rounds_succ]; go_wp2_with (first | (go_at_call 16; (with_reducible refine (toFrac_any m.a _).mono ?_); rintro e w1 ⟨rfl, hb⟩; obtain ⟨hc, hf⟩ := bf hb (w.heap.size + 1 + 1 + 1) (by first | omega | (simp; done) | (simp; omega)); have hs := hb.size; (try simp only [World.size_alloc, World.size_setCell, World.size_drew, World.heap_drewN] at hs); have hl : w.heap.size ≤ w1.heap.size ∧ w.heap.size < w1.heap.size ∧ w.heap.size + 1 < w1.heap.size ∧ w.heap.size + 1 + 1 < w1.heap.size := ⟨by omega, by omega, by omega, by omega⟩; have hB : Below w.heap.size w w1 := bstep (by (repeat' (first | (with_reducible exact Below.refl _ _) | (with_reducible assumption) | (with_reducible refine Below.setCell ?_ (by first | omega | (simp; done) | (simp; omega)) _) | (with_reducible refine Below.alloc ?_ (by first | omega | (simp; done) | (simp; omega)) _) | (with_reducible refine below_drewN ?_ _) | (with_reducible refine Below.drew ?_)))) hb (by first | omega | (simp; done) | (simp; omega)); clear hs hb) | (go_at_call 16; (with_reducible refine (toFrac_any m.b _).mono ?_); rintro e w1 ⟨rfl, hb⟩; obtain ⟨hc, hf⟩ := bf hb (w.heap.size + 1 + 1 + 1) (by first | omega | (simp; done) | (simp; omega)); have hs := hb.size; (try simp only [World.size_alloc, World.size_setCell, World.size_drew, World.heap_drewN] at hs); have hl : w.heap.size ≤ w1.heap.size ∧ w.heap.size < w1.heap.size ∧ w.heap.size + 1 < w1.heap.size ∧ w.heap.size + 1 + 1 < w1.heap.size := ⟨by omega, by omega, by omega, by omega⟩; have hB : Below w.heap.size w w1 := bstep (by (repeat' (first | (with_reducible exact Below.refl _ _) | (with_reducible assumption) | (with_reducible refine Below.setCell ?_ (by first | omega | (simp; done) | (simp; omega)) _) | (with_reducible refine Below.alloc ?_ (by first | omega | (simp; done) | (simp; omega)) _) | (with_reducible refine below_drewN ?_ _) | (with_reducible refine Below.drew ?_)))) hb (by first | omega | (simp; done) | (simp; omega)); clear hs hb) | (go_at_call 16; (with_reducible refine (toFrac_any m.c _).mono ?_); rintro e w1 ⟨rfl, hb⟩; obtain ⟨hc, hf⟩ := bf hb (w.heap.size + 1 + 1 + 1) (by first | omega | (simp; done) | (simp; omega)); have hs := hb.size; (try simp only [World.size_alloc, World.size_setCell, World.size_drew, World.heap_drewN] at hs); have hl : w.heap.size ≤ w1.heap.size ∧ w.heap.size < w1.heap.size ∧ w.heap.size + 1 < w1.heap.size ∧ w.heap.size + 1 + 1 < w1.heap.size := ⟨by omega, by omega, by omega, by omega⟩; have hB : Below w.heap.size w w1 := bstep (by (repeat' (first | (with_reducible exact Below.refl _ _) | (with_reducible assumption) | (with_reducible refine Below.setCell ?_ (by first | omega | (simp; done) | (simp; omega)) _) | (with_reducible refine Below.alloc ?_ (by first | omega | (simp; done) | (simp; omega)) _) | (with_reducible refine below_drewN ?_ _) | (with_reducible refine Below.drew ?_)))) hb (by first | omega | (simp; done) | (simp; omega)); clear hs hb) | (go_at_call 16; (with_reducible refine (toFrac_any m.d _).mono ?_); rintro e w1 ⟨rfl, hb⟩; obtain ⟨hc, hf⟩ := bf hb (w.heap.size + 1 + 1 + 1) (by first | omega | (simp; done) | (simp; omega)); have hs := hb.size; (try simp only [World.size_alloc, World.size_setCell, World.size_drew, World.heap_drewN] at hs); have hl : w.heap.size ≤ w1.heap.size ∧ w.heap.size < w1.heap.size ∧ w.heap.size + 1 < w1.heap.size ∧ w.heap.size + 1 + 1 < w1.heap.size := ⟨by omega, by omega, by omega, by omega⟩; have hB : Below w.heap.size w w1 := bstep (by (repeat' (first | (with_reducible exact Below.refl _ _) | (with_reducible assumption) | (with_reducible refine Below.setCell ?_ (by first | omega | (simp; done) | (simp; omega)) _) | (with_reducible refine Below.alloc ?_ (by first | omega | (simp; done) | (simp; omega)) _) | (with_reducible refine below_drewN ?_ _) | (with_reducible refine Below.drew ?_)))) hb (by first | omega | (simp; done) | (simp; omega)); clear hs hb)))
  exact bodyPost_ret (v := mtv m) (by simp [results, Tryd.results25, go_sem, *]) rfl ⟨rfl, by (repeat' (first | (with_reducible exact Below.refl _ _) | (with_reducible assumption) | (with_reducible refine Below.setCell ?_ (by first | omega | (simp; done) | (simp; omega)) _) | (with_reducible refine Below.alloc ?_ (by first | omega | (simp; done) | (simp; omega)) _) | (with_reducible refine below_drewN ?_ _) | (with_reducible refine Below.drew ?_)))⟩
set_option maxRecDepth 100000 in
set_option maxHeartbeats 4000000 in
theorem toStk_any (m : Mt) (w : World) :
    Calls Tryd.prog 15 #[mtv m] w fun e w' => e = .returned (mtv m) ∧ Below w.heap.size w w' := by
  go_enter Tryd.func15, Tryd.ntmps15
  go_wp2_with (first | (go_at_call 25; (with_reducible refine (toA4_any m _).mono ?_); rintro e w1 ⟨rfl, hb⟩; obtain ⟨hc, hf⟩ := bf hb (w.heap.size + 1 + 1 + 1) (by first | omega | (simp; done) | (simp; omega)); have hs := hb.size; (try simp only [World.size_alloc, World.size_setCell, World.size_drew, World.heap_drewN] at hs); have hl : w.heap.size ≤ w1.heap.size ∧ w.heap.size < w1.heap.size ∧ w.heap.size + 1 < w1.heap.size ∧ w.heap.size + 1 + 1 < w1.heap.size := ⟨by omega, by omega, by omega, by omega⟩; have hB : Below w.heap.size w w1 := bstep (by (repeat' (first | (with_reducible exact Below.refl _ _) | (with_reducible assumption) | (with_reducible refine Below.setCell ?_ (by first | omega | (simp; done) | (simp; omega)) _) | (with_reducible refine Below.alloc ?_ (by first | omega | (simp; done) | (simp; omega)) _) | (with_reducible refine below_drewN ?_ _) | (with_reducible refine Below.drew ?_)))) hb (by first | omega | (simp; done) | (simp; omega)); clear hs hb))
  exact bodyPost_ret (v := mtv m) (by simp [results, Tryd.results15, go_sem, *]) rfl ⟨rfl, by (repeat' (first | (with_reducible exact Below.refl _ _) | (with_reducible assumption) | (with_reducible refine Below.setCell ?_ (by first | omega | (simp; done) | (simp; omega)) _) | (with_reducible refine Below.alloc ?_ (by first | omega | (simp; done) | (simp; omega)) _) | (with_reducible refine below_drewN ?_ _) | (with_reducible refine Below.drew ?_)))⟩
end Go.Proofs.YtejkeihgcggmbaaDoor
