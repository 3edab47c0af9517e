/-
  The walk of the drawer of FnStays.
-/
import Derived.Test.YtiagnnmnaakmoaaDoorHa
namespace Go.Proofs.YtiagnnmnaakmoaaDoor
set_option linter.unusedSimpArgs false
set_option linter.unusedVariables false
open Go.RowKit
theorem FrF.below {w w' : World} {b B : Nat} {m : Fr} (h : FrF w b m) (hb : Below B w w') (hlt : b < B) : FrF w' b m := ⟨h.1.below hb hlt, h.2.below hb hlt⟩
/-- What the drawer tells of a direction lies in two new blocks. -/
def DR (w2 : World) (p q : Fr) (s6 s7 : Value) (W : World) : Prop := ∃ bp bq : Nat, (s6 = .pointer (some ⟨bp, 0, none⟩) ∧ s7 = .pointer (some ⟨bq, 0, none⟩)) ∧ (FrAt W bp p ∧ FrAt W bq q) ∧ (w2.heap.size ≤ bp ∧ w2.heap.size ≤ bq) ∧ Below w2.heap.size w2 W
section
variable {w2 W : World} {p q x y : Fr} {t : TypeId} {bp bq : Nat}
theorem DR.m1 (h : Below w2.heap.size w2 W) : DR w2 p q (.pointer (some ⟨W.heap.size, 0, none⟩)) (.pointer (some ⟨W.heap.size + 1, 0, none⟩)) ((W.alloc (.cells #[.int .i64 p.re, .int .i64 p.im, .int .i64 p.den] t)).alloc (.cells #[.int .i64 q.re, .int .i64 q.im, .int .i64 q.den] t)) :=
  ⟨_, _, ⟨rfl, rfl⟩, ⟨(FrAt.new W p t).alloc _, FrAt.new' (by simp) q t⟩, ⟨h.size, by have := h.size; omega⟩, (h.alloc h.size _).alloc (by have := h.size; simp; omega) _⟩
theorem DR.m2 (h : Below w2.heap.size w2 W) : DR w2 p q (.pointer (some ⟨W.heap.size + 1, 0, none⟩)) (.pointer (some ⟨W.heap.size, 0, none⟩)) ((W.alloc (.cells #[.int .i64 q.re, .int .i64 q.im, .int .i64 q.den] t)).alloc (.cells #[.int .i64 p.re, .int .i64 p.im, .int .i64 p.den] t)) :=
  ⟨_, _, ⟨rfl, rfl⟩, ⟨FrAt.new' (by simp) p t, (FrAt.new W q t).alloc _⟩, ⟨by have := h.size; omega, h.size⟩, (h.alloc h.size _).alloc (by have := h.size; simp; omega) _⟩
theorem belowF (h : Below w2.heap.size w2 W) (hp : w2.heap.size ≤ bp) (y : Fr) : Below w2.heap.size w2 (setF W bp y) := ((h.setCell (p := ⟨bp, 0, none⟩) hp _).setCell (p := ⟨bp, 1, none⟩) hp _).setCell (p := ⟨bp, 2, none⟩) hp _
theorem DR.m3 (h : Below w2.heap.size w2 W) (hp : FrAt W bp x) (hl : w2.heap.size ≤ bp) : DR w2 p q (.pointer (some ⟨bp, 0, none⟩)) (.pointer (some ⟨W.heap.size, 0, none⟩)) ((setF W bp p).alloc (.cells #[.int .i64 q.re, .int .i64 q.im, .int .i64 q.den] t)) :=
  ⟨_, _, ⟨rfl, rfl⟩, ⟨(setF_at hp).alloc _, FrAt.new' (by simp [setF]) q t⟩, ⟨hl, h.size⟩, (belowF h hl p).alloc (belowF h hl p).size _⟩
theorem DR.m4 (h : Below w2.heap.size w2 W) (hq : FrAt W bq x) (hl : w2.heap.size ≤ bq) : DR w2 p q (.pointer (some ⟨W.heap.size, 0, none⟩)) (.pointer (some ⟨bq, 0, none⟩)) ((setF W bq q).alloc (.cells #[.int .i64 p.re, .int .i64 p.im, .int .i64 p.den] t)) :=
  ⟨_, _, ⟨rfl, rfl⟩, ⟨FrAt.new' (by simp [setF]) p t, (setF_at hq).alloc _⟩, ⟨h.size, hl⟩, (belowF h hl q).alloc (belowF h hl q).size _⟩
theorem DR.m5 (h : Below w2.heap.size w2 W) (hp : FrAt W bp x) (hq : FrAt W bq y) (hl : w2.heap.size ≤ bp) (hm : w2.heap.size ≤ bq) (hne : bp ≠ bq) : DR w2 p q (.pointer (some ⟨bp, 0, none⟩)) (.pointer (some ⟨bq, 0, none⟩)) (setF (setF W bp p) bq q) :=
  ⟨_, _, ⟨rfl, rfl⟩, ⟨(((setF_at hp).far (p := ⟨bq, 0, none⟩) hne _).far (p := ⟨bq, 1, none⟩) hne _).far (p := ⟨bq, 2, none⟩) hne _, setF_at (((hq.far (p := ⟨bp, 0, none⟩) hne.symm _).far (p := ⟨bp, 1, none⟩) hne.symm _).far (p := ⟨bp, 2, none⟩) hne.symm _)⟩, ⟨hl, hm⟩, belowF (belowF h hl p) hm q⟩
end
theorem FrAt.drew {w : World} {b : Nat} {m : Fr} (h : FrAt w b m) : FrAt w.drew b m := h
theorem FrAt.drewN {w : World} {b : Nat} {m : Fr} (h : FrAt w b m) (n : Nat) : FrAt (w.drewN n) b m := h
theorem ff2 {w : World} {bp bq : Nat} {p q : Fr} (hp : FrAt w bp p) (hq : FrAt w bq q) : w.cell? ⟨bp, 0, none⟩ = some (.int .i64 p.re) ∧ w.cell? ⟨bp, 1, none⟩ = some (.int .i64 p.im) ∧ w.cell? ⟨bp, 2, none⟩ = some (.int .i64 p.den) ∧ w.cell? ⟨bq, 0, none⟩ = some (.int .i64 q.re) ∧ w.cell? ⟨bq, 1, none⟩ = some (.int .i64 q.im) ∧ w.cell? ⟨bq, 2, none⟩ = some (.int .i64 q.den) := ⟨hp.1, hp.2.1, hp.2.2, hq⟩
theorem sec2 {w2 W : World} {b o : Nat} {s : Sec} (h : Below w2.heap.size w2 W) (c : SecAt w2 b o s) (hlt : b < w2.heap.size) : W.cell? ⟨b, o, none⟩ = some (.int .i64 s.p) ∧ W.cell? ⟨b, o + 1, none⟩ = some (.int .i64 s.q) :=
  ⟨(c.below h hlt).1, (c.below h hlt).2.1⟩
set_option maxRecDepth 100000 in
set_option maxHeartbeats 4000000 in
theorem drawFibreStays_any (A : Option Addr) (len cap : Nat) (w : World) (hby : Bytes A len cap w) :
    Calls Tryd.prog 20 #[.slice A len cap] w fun e w' => ∃ (A1 : Option Addr) (n c1 : Nat) (xs : List Sec) (j : Jn), e = .returned (.tuple #[.slice A1 n c1, jnv j]) ∧ Secs A1 n c1 xs w' ∧ Below w.heap.size w w' := by
  have hB0 : Below w.heap.size w (w.alloc (.cells #[.int .i64 zJ.x.re, .int .i64 zJ.x.im, .int .i64 zJ.x.den, .int .i64 zJ.y.re, .int .i64 zJ.y.im, .int .i64 zJ.y.den] 33)) := (Below.refl _ _).alloc (Nat.le_refl _) _
  go_enter Tryd.func20, Tryd.ntmps20
  go_wp2_with (go_at_call 38; (with_reducible refine (openB A len cap _ (w.heap.size + 1) (by simp) (hby.below ((Below.refl _ _).alloc (Nat.le_refl _) _))).mono ?_); rintro e w1 ⟨rfl, hr1, hb⟩; refine Hid.out ?_)
  refine Lib.hid ?_
  have hlt := hr1.lt
  have hJ : JnF w1 w.heap.size zJ := (JnF.new w zJ 33).below hb (by simp)
  have hB : Below w.heap.size w w1 := bstep hB0 hb (by simp)
  clear hb hB0
  go_wp2_with (go_at_call 37; (with_reducible refine (dfibre_any (w.heap.size + 1) _ (RdEx.of hr1 (by omega))).mono ?_); rintro e w2 ⟨xs, v, rfl, ⟨hu, hx⟩, hO, hl⟩; refine Hid.out ?_)
  refine Lib.hid ?_
  have hr := hu _ hr1
  have hJ := hJ.belX hx (by omega) (by omega)
  have hz2 := hx.size
  have hX : BelX w.heap.size (w.heap.size + 1) w w2 := BelX.step (BelX.of hB) hx hB.size
  have hbr : w.heap.size + 1 < w1.heap.size := hlt
  have hne : ∀ k, v.ownBlock = some k → k ≠ w.heap.size := fun k hk e => by
    have := (hO.lt k hk).1
    omega
  obtain ⟨A1, c1, rfl, -⟩ := hO.secs
  obtain ⟨n, hn⟩ : ∃ n, n = xs.length := ⟨_, rfl⟩
  have HL := Lib.hid hn.symm
  rw [← hn]
  have hS := hO.read
  rw [← hn] at hS hl
  clear hu hx hr1 hB hn
  have hn1 := hS.2.1
  have hn2 := hS.2.2.1
  rcases Nat.eq_zero_or_pos n with h0 | h0
  · have hd : decide ((0 : Int) < (n : Int)) = false := by simp; omega
    go_wp2_with (go_at_call 52; (with_reducible refine (djones_any (w.heap.size + 1) _ (RdEx.of hr (by omega))).mono ?_); rintro e wj ⟨j, rfl, ⟨-, hx⟩, -⟩; refine Hid.out ?_)
    refine Lib.hid ?_
    have hJ := hJ.belX hx (by omega) (by omega)
    have hO := hO.belX hx hbr
    have hX3 := (BelX.step hX hx (by omega)).below (Nat.le_succ _)
    obtain ⟨⟨z0, z1, z2, z3, z4, z5⟩, hfz⟩ := hJ
    unfold FreeB at hfz
    have hB3 : Below w.heap.size w wj := hX3
    clear hx hX3
    go_wp2
    refine bodyPost_ret (v := .tuple #[.slice A1 n c1, jnv j]) (by simp [results, Tryd.results20, go_sem, *]) rfl ⟨A1, n, c1, xs, j, rfl, ?_, by exact below_⟩
    rw [HL.out] at hO hne
    exact ((((((hO.far (p := ⟨w.heap.size, 0, none⟩) hne _).far (p := ⟨w.heap.size, 1, none⟩) hne _).far (p := ⟨w.heap.size, 2, none⟩) hne _).far (p := ⟨w.heap.size, 3, none⟩) hne _).far (p := ⟨w.heap.size, 4, none⟩) hne _).far (p := ⟨w.heap.size, 5, none⟩) hne _).read
  · have hd : decide ((0 : Int) < (n : Int)) = true := by simp; omega
    have hn3 : (0 : Int) < (n : Int) := by omega
    obtain ⟨b1, o1, s, rfl, hlt1, hs1, hc1⟩ := hS.at (Below.refl _ _) h0
    have hcap1 : (1 : Int) ≤ (c1 : Int) := by omega
    go_wp2_with (go_at_call 50; (with_reducible refine (pick_any 2 _ _ (RdEx.of hr (by omega)) (by omega) (by omega)).mono ?_); rintro e wp ⟨x, rfl, ⟨hu, hx⟩, hx0, hx1⟩; refine Hid.out ?_)
    refine Lib.hid ?_
    have hr := hu _ hr
    have hJ := hJ.belX hx (by omega) (by omega)
    have hO := hO.belX hx hbr
    have hX := BelX.step hX hx (by omega)
    have hzp := hx.size
    clear hu hx hc1 hS hs1
    have hS := hO.read
    rw [HL.out] at hS
    obtain ⟨b2, o2, s, e2, hlt1, hs1, hc1⟩ := hS.at (Below.refl _ _) h0
    simp only [Option.some.injEq, Addr.mk.injEq, and_true] at e2
    obtain ⟨rfl, rfl⟩ := e2
    simp only [Nat.zero_mul, Nat.add_zero] at hc1
    clear hs1
    rcases (show x = 0 ∨ x = 1 by omega) with rfl | rfl
    · cases hd2 : dirOk s.p s.q
      · have HD := Lib.hid hd2
        clear hd2
        go_upto_region 4 with fail
        go_cut [6, 7, 8] from 21 to 33 (fun s6 s7 s8 wx => s8 = .bool false ∧ DR wp ⟨0, 0, 0⟩ ⟨0, 0, 0⟩ s6 s7 wx)
        case first =>
          go_region_held3 (fun w' => w'.cell? ⟨b1, o1, none⟩ = some (.int .i64 s.p) ∧ w'.cell? ⟨b1, o1 + 1, none⟩ = some (.int .i64 s.q)) ((refine sec2 (w2 := wp) ?_ hc1 hlt1; exact below_)) (first | (go_at_call 51; (with_reducible refine (sdirection_f s.p s.q _ HD.out).mono ?_); rintro e wd ⟨rfl, hb⟩; have hBd : Below wp.heap.size wp wd := bstep (by exact below_) hb side_; have hzd := hBd.size; (try (have hT : FrF wd (wp.heap.size) Z3 := (by refine FrF.below (w := _) ?_ hb ?_; (repeat' (first | (with_reducible assumption) | ((refine FrF.new' ?_ ⟨0, 0, 0⟩ _) <;> (first | rfl | omega | (simp; done) | (simp; omega))) | (with_reducible apply FrF.alloc) | (with_reducible apply FrF.drewN) | (with_reducible apply FrF.drew) | omega | (simp; done) | (simp; omega))); first | done | fail); have hTf := hT.2; unfold FreeB at hTf; obtain ⟨t0, t1, t2⟩ := hT.1; have hTl : wp.heap.size < wd.heap.size := hT.1.lt)); (try (have hT : FrF wd (wp.heap.size + 1) Z3 := (by refine FrF.below (w := _) ?_ hb ?_; (repeat' (first | (with_reducible assumption) | ((refine FrF.new' ?_ ⟨0, 0, 0⟩ _) <;> (first | rfl | omega | (simp; done) | (simp; omega))) | (with_reducible apply FrF.alloc) | (with_reducible apply FrF.drewN) | (with_reducible apply FrF.drew) | omega | (simp; done) | (simp; omega))); first | done | fail); have hTf := hT.2; unfold FreeB at hTf; obtain ⟨t0, t1, t2⟩ := hT.1; have hTl : wp.heap.size + 1 < wd.heap.size := hT.1.lt)); clear hb))
          all_goals (go_wp2; go_meet; refine ⟨rfl, ?_⟩; first | ((with_reducible refine DR.m1 (W := wd) ?_) <;> (first | (with_reducible assumption) | (with_reducible exact FrF.at (m := Z3) (by assumption)) | omega)) | ((with_reducible refine DR.m2 (W := wd) ?_) <;> (first | (with_reducible assumption) | (with_reducible exact FrF.at (m := Z3) (by assumption)) | omega)) | ((with_reducible refine DR.m3 (W := wd) (bp := wp.heap.size) (x := Z3) ?_ ?_ ?_) <;> (first | (with_reducible assumption) | (with_reducible exact FrF.at (m := Z3) (by assumption)) | omega)) | ((with_reducible refine DR.m3 (W := wd) (bp := wp.heap.size) (x := Z3) ?_ ?_ ?_) <;> (first | (with_reducible assumption) | (with_reducible exact FrF.at (m := Z3) (by assumption)) | omega)) | ((with_reducible refine DR.m4 (W := wd) (bq := wp.heap.size) (x := Z3) ?_ ?_ ?_) <;> (first | (with_reducible assumption) | (with_reducible exact FrF.at (m := Z3) (by assumption)) | omega)) | ((with_reducible refine DR.m4 (W := wd) (bq := wp.heap.size) (x := Z3) ?_ ?_ ?_) <;> (first | (with_reducible assumption) | (with_reducible exact FrF.at (m := Z3) (by assumption)) | omega)) | ((with_reducible refine DR.m5 (W := wd) (bp := wp.heap.size) (bq := wp.heap.size + 1) (x := Z3) (y := Z3) ?_ ?_ ?_ ?_ ?_ ?_) <;> (first | (with_reducible assumption) | (with_reducible exact FrF.at (m := Z3) (by assumption)) | omega)) | ((with_reducible refine DR.m5 (W := wd) (bp := wp.heap.size + 1) (bq := wp.heap.size) (x := Z3) (y := Z3) ?_ ?_ ?_ ?_ ?_ ?_) <;> (first | (with_reducible assumption) | (with_reducible exact FrF.at (m := Z3) (by assumption)) | omega)))
        case rest =>
          obtain ⟨rfl, bp, bq, ⟨rfl, rfl⟩, -, -, hb⟩ := hcut
          have hr := hr.below hb hr.lt
          have hJ := hJ.below hb hJ.1.lt
          have hO := hO.below hb
          have hX := hX.trans (BelX.of (hb.mono (by omega)))
          have hzc := hb.size
          go_wp2_with (go_at_call 52; (with_reducible refine (djones_any (w.heap.size + 1) _ (RdEx.of hr (by omega))).mono ?_); rintro e wj ⟨j, rfl, ⟨-, hx⟩, -⟩; refine Hid.out ?_)
          refine Lib.hid ?_
          have hJ := hJ.belX hx (by omega) (by omega)
          have hO := hO.belX hx hbr
          have hX3 := (BelX.step hX hx (by omega)).below (Nat.le_succ _)
          obtain ⟨⟨z0, z1, z2, z3, z4, z5⟩, hfz⟩ := hJ
          unfold FreeB at hfz
          have hB3 : Below w.heap.size w wj := hX3
          clear hx hX3
          go_wp2
          refine bodyPost_ret (v := .tuple #[.slice (some ⟨b1, o1, none⟩) n c1, jnv j]) (by simp [results, Tryd.results20, go_sem, *]) rfl ⟨(some ⟨b1, o1, none⟩), n, c1, xs, j, rfl, ?_, by exact below_⟩
          rw [HL.out] at hO hne
          exact ((((((hO.far (p := ⟨w.heap.size, 0, none⟩) hne _).far (p := ⟨w.heap.size, 1, none⟩) hne _).far (p := ⟨w.heap.size, 2, none⟩) hne _).far (p := ⟨w.heap.size, 3, none⟩) hne _).far (p := ⟨w.heap.size, 4, none⟩) hne _).far (p := ⟨w.heap.size, 5, none⟩) hne _).read
      · have HD := Lib.hid hd2
        clear hd2
        go_upto_region 4 with fail
        go_cut [6, 7, 8] from 21 to 33 (fun s6 s7 s8 wx => s8 = .bool true ∧ DR wp (dirC s.p s.q) (dirS s.p s.q) s6 s7 wx)
        case first =>
          go_region_held3 (fun w' => w'.cell? ⟨b1, o1, none⟩ = some (.int .i64 s.p) ∧ w'.cell? ⟨b1, o1 + 1, none⟩ = some (.int .i64 s.q)) ((refine sec2 (w2 := wp) ?_ hc1 hlt1; exact below_)) (first | (go_at_call 51; (with_reducible refine (sdirection_t s.p s.q _ HD.out).mono ?_); rintro e wd ⟨rfl, hb⟩; have hBd : Below wp.heap.size wp wd := bstep (by exact below_) hb side_; have hzd := hBd.size; (try (have hT : FrF wd (wp.heap.size) Z3 := (by refine FrF.below (w := _) ?_ hb ?_; (repeat' (first | (with_reducible assumption) | ((refine FrF.new' ?_ ⟨0, 0, 0⟩ _) <;> (first | rfl | omega | (simp; done) | (simp; omega))) | (with_reducible apply FrF.alloc) | (with_reducible apply FrF.drewN) | (with_reducible apply FrF.drew) | omega | (simp; done) | (simp; omega))); first | done | fail); have hTf := hT.2; unfold FreeB at hTf; obtain ⟨t0, t1, t2⟩ := hT.1; have hTl : wp.heap.size < wd.heap.size := hT.1.lt)); (try (have hT : FrF wd (wp.heap.size + 1) Z3 := (by refine FrF.below (w := _) ?_ hb ?_; (repeat' (first | (with_reducible assumption) | ((refine FrF.new' ?_ ⟨0, 0, 0⟩ _) <;> (first | rfl | omega | (simp; done) | (simp; omega))) | (with_reducible apply FrF.alloc) | (with_reducible apply FrF.drewN) | (with_reducible apply FrF.drew) | omega | (simp; done) | (simp; omega))); first | done | fail); have hTf := hT.2; unfold FreeB at hTf; obtain ⟨t0, t1, t2⟩ := hT.1; have hTl : wp.heap.size + 1 < wd.heap.size := hT.1.lt)); clear hb))
          all_goals (go_wp2; go_meet; refine ⟨rfl, ?_⟩; first | ((with_reducible refine DR.m1 (W := wd) ?_) <;> (first | (with_reducible assumption) | (with_reducible exact FrF.at (m := Z3) (by assumption)) | omega)) | ((with_reducible refine DR.m2 (W := wd) ?_) <;> (first | (with_reducible assumption) | (with_reducible exact FrF.at (m := Z3) (by assumption)) | omega)) | ((with_reducible refine DR.m3 (W := wd) (bp := wp.heap.size) (x := Z3) ?_ ?_ ?_) <;> (first | (with_reducible assumption) | (with_reducible exact FrF.at (m := Z3) (by assumption)) | omega)) | ((with_reducible refine DR.m3 (W := wd) (bp := wp.heap.size) (x := Z3) ?_ ?_ ?_) <;> (first | (with_reducible assumption) | (with_reducible exact FrF.at (m := Z3) (by assumption)) | omega)) | ((with_reducible refine DR.m4 (W := wd) (bq := wp.heap.size) (x := Z3) ?_ ?_ ?_) <;> (first | (with_reducible assumption) | (with_reducible exact FrF.at (m := Z3) (by assumption)) | omega)) | ((with_reducible refine DR.m4 (W := wd) (bq := wp.heap.size) (x := Z3) ?_ ?_ ?_) <;> (first | (with_reducible assumption) | (with_reducible exact FrF.at (m := Z3) (by assumption)) | omega)) | ((with_reducible refine DR.m5 (W := wd) (bp := wp.heap.size) (bq := wp.heap.size + 1) (x := Z3) (y := Z3) ?_ ?_ ?_ ?_ ?_ ?_) <;> (first | (with_reducible assumption) | (with_reducible exact FrF.at (m := Z3) (by assumption)) | omega)) | ((with_reducible refine DR.m5 (W := wd) (bp := wp.heap.size + 1) (bq := wp.heap.size) (x := Z3) (y := Z3) ?_ ?_ ?_ ?_ ?_ ?_) <;> (first | (with_reducible assumption) | (with_reducible exact FrF.at (m := Z3) (by assumption)) | omega)))
        case rest =>
          obtain ⟨rfl, bp, bq, ⟨rfl, rfl⟩, ⟨hp, hq⟩, ⟨hbp, hbq⟩, hb⟩ := hcut
          have hJ := hJ.below hb hJ.1.lt
          have hO := hO.below hb
          have hX := hX.trans (BelX.of (hb.mono (by omega)))
          have hzc := hb.size
          have hB3 : Below w.heap.size w wc := hX.below (Nat.le_succ _)
          obtain ⟨⟨z0, z1, z2, z3, z4, z5⟩, hfz⟩ := hJ
          unfold FreeB at hfz
          clear hX hb
          have hwp : w.heap.size < bp := by omega
          have hwq : w.heap.size < bq := by omega
          go_upto_region 6 with fail
          go_region_held3 (fun w' => w'.cell? ⟨bp, 0, none⟩ = some (.int .i64 (dirC s.p s.q).re) ∧ w'.cell? ⟨bp, 1, none⟩ = some (.int .i64 (dirC s.p s.q).im) ∧ w'.cell? ⟨bp, 2, none⟩ = some (.int .i64 (dirC s.p s.q).den) ∧ w'.cell? ⟨bq, 0, none⟩ = some (.int .i64 (dirS s.p s.q).re) ∧ w'.cell? ⟨bq, 1, none⟩ = some (.int .i64 (dirS s.p s.q).im) ∧ w'.cell? ⟨bq, 2, none⟩ = some (.int .i64 (dirS s.p s.q).den)) ((refine ff2 ?_ ?_ <;> (repeat' (first | (with_reducible assumption) | (with_reducible apply FrAt.drewN) | (with_reducible apply FrAt.drew) | ((with_reducible refine FrAt.far ?_ ?_ _) <;> (first | omega | (simp; omega) | skip)))))) (first | fail)
          all_goals (
            go_wp2
            refine bodyPost_ret (v := .tuple #[.slice (some ⟨b1, o1, none⟩) 1 c1, jnv ⟨dirC s.p s.q, dirS s.p s.q⟩]) (by simp [results, Tryd.results20, go_sem, *]) rfl ⟨(some ⟨b1, o1, none⟩), 1, c1, xs.take 1, ⟨dirC s.p s.q, dirS s.p s.q⟩, rfl, ?_, by exact below_⟩
            rw [HL.out] at hO hne
            refine Secs.take (len := n) ?_ 1 h0
            refine Own.read (base := w1.heap.size) ?_
            (repeat' (first | (with_reducible assumption) | (with_reducible apply Own.drewN) | (with_reducible apply Own.drew) | (with_reducible refine Own.far ?_ hne _))))
    · go_wp2_with (go_at_call 52; (with_reducible refine (djones_any (w.heap.size + 1) _ (RdEx.of hr (by omega))).mono ?_); rintro e wj ⟨j, rfl, ⟨-, hx⟩, -⟩; refine Hid.out ?_)
      refine Lib.hid ?_
      have hJ := hJ.belX hx (by omega) (by omega)
      have hO := hO.belX hx hbr
      have hX3 := (BelX.step hX hx (by omega)).below (Nat.le_succ _)
      obtain ⟨⟨z0, z1, z2, z3, z4, z5⟩, hfz⟩ := hJ
      unfold FreeB at hfz
      have hB3 : Below w.heap.size w wj := hX3
      clear hx hX3
      go_wp2
      refine bodyPost_ret (v := .tuple #[.slice (some ⟨b1, o1, none⟩) n c1, jnv j]) (by simp [results, Tryd.results20, go_sem, *]) rfl ⟨(some ⟨b1, o1, none⟩), n, c1, xs, j, rfl, ?_, by exact below_⟩
      rw [HL.out] at hO hne
      exact ((((((hO.far (p := ⟨w.heap.size, 0, none⟩) hne _).far (p := ⟨w.heap.size, 1, none⟩) hne _).far (p := ⟨w.heap.size, 2, none⟩) hne _).far (p := ⟨w.heap.size, 3, none⟩) hne _).far (p := ⟨w.heap.size, 4, none⟩) hne _).far (p := ⟨w.heap.size, 5, none⟩) hne _).read
end Go.Proofs.YtiagnnmnaakmoaaDoor
