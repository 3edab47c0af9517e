/-
  The walks of the helpers of the statements on lists of Stokes numbers: handed over, compared.
-/
import Derived.Test.YtejkeihgcggmbaaDoorKl
import Derived.Deep.CutRange
namespace Go.Proofs.YtejkeihgcggmbaaDoor
set_option linter.unusedSimpArgs false
set_option linter.unusedVariables false
open Go.RowKit
attribute [local go_sem ↓] Go.wp_at_zero Go.wp_at_succ
theorem StAt.cells {W : World} {b o : Nat} {m : Mt} (h : StAt W b o m) : W.cell? ⟨b, o, none⟩ = some (.int .i64 m.a.re) ∧ W.cell? ⟨b, o + 1, none⟩ = some (.int .i64 m.a.im) ∧ W.cell? ⟨b, o + 2, none⟩ = some (.int .i64 m.a.den) ∧ W.cell? ⟨b, o + 3, none⟩ = some (.int .i64 m.b.re) ∧ W.cell? ⟨b, o + 4, none⟩ = some (.int .i64 m.b.im) ∧ W.cell? ⟨b, o + 5, none⟩ = some (.int .i64 m.b.den) ∧ W.cell? ⟨b, o + 6, none⟩ = some (.int .i64 m.c.re) ∧ W.cell? ⟨b, o + 7, none⟩ = some (.int .i64 m.c.im) ∧ W.cell? ⟨b, o + 8, none⟩ = some (.int .i64 m.c.den) ∧ W.cell? ⟨b, o + 9, none⟩ = some (.int .i64 m.d.re) ∧ W.cell? ⟨b, o + 10, none⟩ = some (.int .i64 m.d.im) ∧ W.cell? ⟨b, o + 11, none⟩ = some (.int .i64 m.d.den) :=
  ⟨h.1.1, h.1.2.1, h.1.2.2, h.2.1.1, h.2.1.2.1, h.2.1.2.2, h.2.2.1.1, h.2.2.1.2.1, h.2.2.1.2.2, h.2.2.2.1, h.2.2.2.2.1, h.2.2.2.2.2⟩
def zM4 : Mt := ⟨⟨0, 0, 0⟩, ⟨0, 0, 0⟩, ⟨0, 0, 0⟩, ⟨0, 0, 0⟩⟩
theorem infoStk : (Tryd.prog.info? 42).map (fun i => (i.zero, i.size, i.bytes)) = some (some (.agg #[.int .i64 0, .int .i64 0, .int .i64 0, .int .i64 0, .int .i64 0, .int .i64 0, .int .i64 0, .int .i64 0, .int .i64 0, .int .i64 0, .int .i64 0, .int .i64 0]), 12, 96) := by kernel_rfl
theorem put_stepS {xs : List Mt} {n k : Nat} {s : Mt} (hn : xs.length = n) (hk : k < n) (hs : xs[k]? = some s) : (xs.take k ++ List.replicate (n - k) zM4).set k s = xs.take (k + 1) ++ List.replicate (n - (k + 1)) zM4 := by
  have hl : (xs.take k).length = k := by rw [List.length_take]; omega
  rw [List.set_append, if_neg (by omega), hl, Nat.sub_self, show n - k = n - (k + 1) + 1 by omega, List.replicate_succ, List.set_cons_zero, List.take_add_one, hs]
  simp
theorem rowS_zero (n : Nat) : rowF (flatS (List.replicate n zM4)) = (madeCells #[.int .i64 0, .int .i64 0, .int .i64 0, .int .i64 0, .int .i64 0, .int .i64 0, .int .i64 0, .int .i64 0, .int .i64 0, .int .i64 0, .int .i64 0, .int .i64 0] (n * 12)).toList := by
  have h1 : rowF (flatS (List.replicate n zM4)) = List.replicate (n * 12) (.int .i64 0) := by
    rw [List.eq_replicate_iff]
    refine ⟨by rw [rowF_length, flatS_len, List.length_replicate]; omega, fun u hu => ?_⟩
    simp only [rowF, flatS, List.mem_flatMap, List.mem_replicate, row4, fracL, List.mem_cons, List.not_mem_nil, or_false] at hu
    obtain ⟨f, ⟨m, ⟨_, rfl⟩, hf⟩, hu⟩ := hu
    have hz : f = ⟨0, 0, 0⟩ := by rcases hf with rfl | rfl | rfl | rfl <;> rfl
    subst hz
    rcases hu with rfl | rfl | rfl <;> rfl
  have h2 : (madeCells #[.int .i64 0, .int .i64 0, .int .i64 0, .int .i64 0, .int .i64 0, .int .i64 0, .int .i64 0, .int .i64 0, .int .i64 0, .int .i64 0, .int .i64 0, .int .i64 0] (n * 12)).toList = List.replicate (n * 12) (.int .i64 0) := by
    rw [List.eq_replicate_iff]
    refine ⟨by simp [madeCells], fun u hu => ?_⟩
    simp [madeCells] at hu
    obtain ⟨x, _, rfl⟩ := hu
    have hx : x % 12 < 12 := Nat.mod_lt _ (by omega)
    generalize x % 12 = y at hx ⊢
    match y, hx with
    | 0, _ => rfl
    | 1, _ => rfl
    | 2, _ => rfl
    | 3, _ => rfl
    | 4, _ => rfl
    | 5, _ => rfl
    | 6, _ => rfl
    | 7, _ => rfl
    | 8, _ => rfl
    | 9, _ => rfl
    | 10, _ => rfl
    | 11, _ => rfl
  rw [h1, h2]
theorem OwS.at {base : Nat} {v : Value} {ms : List Mt} {w : World} (h : OwS base v ms w) (k : Nat) (m : Mt) (hk : ms[k]? = some m) :
    ∃ g cap, v = .slice (some ⟨g, 0, none⟩) ms.length cap ∧ base ≤ g ∧ g < w.heap.size ∧ StAt w g (k * 12) m ∧ ∀ o, w.frozen? ⟨g, o, none⟩ = false := by
  have hkl := (List.getElem?_eq_some_iff.1 hk).1
  obtain ⟨A, c, e, hS⟩ := h.sts
  obtain ⟨bb, off, m', eA, hbb, hm', hat⟩ := hS.at (Below.refl _ _) hkl
  rw [hk] at hm'
  obtain rfl := Option.some.inj hm'
  rcases h.2 with ⟨rfl, h0⟩ | ⟨g, cap, cur, rfl, hbg, hg, rest⟩
  · omega
  · simp only [Value.slice.injEq] at e
    obtain ⟨e1, -, rfl⟩ := e
    rw [eA] at e1
    simp only [Option.some.injEq, Addr.mk.injEq, and_true] at e1
    obtain ⟨rfl, rfl⟩ := e1
    rw [Nat.zero_add] at hat
    exact ⟨g, cap, rfl, hbg, hbb, hat, fun o => by simp [World.frozen?, hg]⟩
set_option maxRecDepth 100000 in
set_option maxHeartbeats 8000000 in
theorem toStks_any (A : Option Addr) (len cap : Nat) (xs : List Mt) (w : World) (h : Sts A len cap xs w) (hbig : len ≤ 1048576) :
    Calls Tryd.prog 7 #[.slice A len cap] w fun e w' => ∃ v, e = .returned v ∧ OwS w.heap.size v xs w' ∧ Below w.heap.size w w' := by
  obtain ⟨i0, hi, hz0, hz1, hz2⟩ := info_parts infoStk
  have hl := h.2.1
  have hm := h.2.2.1
  have hxl := h.1
  go_enter Tryd.func7, Tryd.ntmps7
  go_wp2_with (at_make; refine wpList_make_full _ rfl _ _ 31 rfl w.heap.size 42 i0 (.agg #[.int .i64 0, .int .i64 0, .int .i64 0, .int .i64 0, .int .i64 0, .int .i64 0, .int .i64 0, .int .i64 0, .int .i64 0, .int .i64 0, .int .i64 0, .int .i64 0]) 12 Tryd.underlying31 hi hz0 hz1 .i64 .i64 len len len rfl rfl rfl rfl (by rw [hz2]; omega) (by unfold maxLen; omega) (Nat.le_refl _) ?_)
  intro w1 hown hgr
  have hO : OwS w.heap.size (.slice (some ⟨w.heap.size, 0, none⟩) len len) (List.replicate len zM4) w1 := by
    unfold OwS
    rw [List.length_replicate, rowS_zero]
    exact hown
  have hb : Below w.heap.size w w1 := (Below.refl _ _).grown hgr (Nat.le_refl _) (fun k hk => by cases hk)
  clear hown hgr
  go_wp2
  go_loopw [4] (fun i wr => ∃ k : Nat, k ≤ len ∧ i = .int .i64 k ∧ OwS w.heap.size (.slice (some ⟨w.heap.size, 0, none⟩) len len) (xs.take k ++ List.replicate (len - k) zM4) wr ∧ Below w.heap.size w wr) (fun i _ => len - (intOf i).toNat)
  case atStart => exact ⟨0, Nat.zero_le _, rfl, by simpa using hO, hb⟩
  case round =>
    clear hO hb
    obtain ⟨k, hk, rfl, hO, hb⟩ := hrel
    have hz := hb.size
    by_cases hkl : k < len
    · obtain ⟨b1, o1, s, rfl, hlt1, hs1, hc1⟩ := h.at hb hkl
      obtain ⟨c0, c1, c2, c3, c4, c5, c6, c7, c8, c9, c10, c11⟩ := hc1.cells
      have HS1 := Lib.hid hs1
      clear hs1 hc1
      go_wp2_with (go_at_call 15; (with_reducible refine (toStk_any s _).mono ?_); rintro e w2 ⟨rfl, hbt⟩; refine Hid.out ?_)
      refine Lib.hid ?_
      have hO1 := hO.below hbt
      have hB1 : Below w.heap.size w w2 := bstep hb hbt hz
      have hxk : (List.take k xs ++ List.replicate (len - k) zM4)[k]? = some zM4 := by
        rw [List.getElem?_append_right (by rw [List.length_take]; omega), List.length_take, Nat.min_eq_left (by omega), Nat.sub_self, List.getElem?_replicate, if_pos (by omega)]
      obtain ⟨g, cp, hv, -, hg, hat, hfz⟩ := hO1.at k zM4 hxk
      simp only [Value.slice.injEq, Option.some.injEq, Addr.mk.injEq, and_true, true_and] at hv
      obtain ⟨rfl, hv1, rfl⟩ := hv
      obtain ⟨z0, z1, z2, z3, z4, z5, z6, z7, z8, z9, z10, z11⟩ := hat.cells
      clear hv1 hxk hbt c0 c1 c2 c3 c4 c5 c6 c7 c8 c9 c10 c11 hat
      go_wp2
      go_roundw
      case rel =>
        refine ⟨k + 1, by omega, by go_num, ?_, by (repeat' (first | (with_reducible exact Below.refl _ _) | (with_reducible assumption) | (with_reducible refine Below.setCell ?_ (by first | omega | (simp; done) | (simp; omega)) _) | (with_reducible refine Below.alloc ?_ (by first | omega | (simp; done) | (simp; omega)) _) | (with_reducible refine below_drewN ?_ _) | (with_reducible refine Below.drew ?_)))⟩
        have := hO1.put (g := w.heap.size) rfl k (by rw [List.length_append, List.length_take, List.length_replicate]; omega) s
        rw [put_stepS hxl hkl HS1.out] at this
        exact this
      case measure => simp [intOf]; omega
    · go_wp2
      go_ret
      have e : k = len := by omega
      subst e
      rw [Nat.sub_self, List.replicate_zero, List.append_nil, List.take_of_length_le (by omega)] at hO
      exact ⟨_, rfl, hO, hb⟩
set_option maxRecDepth 100000 in
set_option maxHeartbeats 8000000 in
theorem eqStks_refl (A A' : Option Addr) (len cap cap' : Nat) (xs : List Mt) (w : World) (h : Sts A len cap xs w) (h' : Sts A' len cap' xs w) :
    Calls Tryd.prog 11 #[.slice A len cap, .slice A' len cap'] w fun e w' => e = .returned (.bool true) ∧ Below w.heap.size w w' := by
  have hl := h.2.1
  have hm := h.2.2.1
  go_enter Tryd.func11, Tryd.ntmps11
  go_wp2
  go_loopw [5] (fun i wr => ∃ k : Nat, k ≤ len ∧ i = .int .i64 k ∧ Below w.heap.size w wr) (fun i _ => len - (intOf i).toNat)
  case atStart => exact ⟨0, Nat.zero_le _, rfl, Below.refl _ _⟩
  case round =>
    obtain ⟨k, hk, rfl, hb⟩ := hrel
    have hz := hb.size
    by_cases hkl : k < len
    · obtain ⟨b1, o1, s, rfl, hlt1, hs1, hc1⟩ := h.at hb hkl
      obtain ⟨b2, o2, s2, rfl, hlt2, hs2, hc2⟩ := h'.at hb hkl
      obtain rfl : s = s2 := by rw [hs1] at hs2; exact Option.some.inj hs2
      have h24 : ∀ W', Below w.heap.size w W' → (W'.cell? ⟨b1, o1 + k * 12, none⟩ = some (.int .i64 s.a.re) ∧ W'.cell? ⟨b1, o1 + k * 12 + 1, none⟩ = some (.int .i64 s.a.im) ∧ W'.cell? ⟨b1, o1 + k * 12 + 2, none⟩ = some (.int .i64 s.a.den) ∧ W'.cell? ⟨b1, o1 + k * 12 + 3, none⟩ = some (.int .i64 s.b.re) ∧ W'.cell? ⟨b1, o1 + k * 12 + 4, none⟩ = some (.int .i64 s.b.im) ∧ W'.cell? ⟨b1, o1 + k * 12 + 5, none⟩ = some (.int .i64 s.b.den) ∧ W'.cell? ⟨b1, o1 + k * 12 + 6, none⟩ = some (.int .i64 s.c.re) ∧ W'.cell? ⟨b1, o1 + k * 12 + 7, none⟩ = some (.int .i64 s.c.im) ∧ W'.cell? ⟨b1, o1 + k * 12 + 8, none⟩ = some (.int .i64 s.c.den) ∧ W'.cell? ⟨b1, o1 + k * 12 + 9, none⟩ = some (.int .i64 s.d.re) ∧ W'.cell? ⟨b1, o1 + k * 12 + 10, none⟩ = some (.int .i64 s.d.im) ∧ W'.cell? ⟨b1, o1 + k * 12 + 11, none⟩ = some (.int .i64 s.d.den)) ∧ (W'.cell? ⟨b2, o2 + k * 12, none⟩ = some (.int .i64 s.a.re) ∧ W'.cell? ⟨b2, o2 + k * 12 + 1, none⟩ = some (.int .i64 s.a.im) ∧ W'.cell? ⟨b2, o2 + k * 12 + 2, none⟩ = some (.int .i64 s.a.den) ∧ W'.cell? ⟨b2, o2 + k * 12 + 3, none⟩ = some (.int .i64 s.b.re) ∧ W'.cell? ⟨b2, o2 + k * 12 + 4, none⟩ = some (.int .i64 s.b.im) ∧ W'.cell? ⟨b2, o2 + k * 12 + 5, none⟩ = some (.int .i64 s.b.den) ∧ W'.cell? ⟨b2, o2 + k * 12 + 6, none⟩ = some (.int .i64 s.c.re) ∧ W'.cell? ⟨b2, o2 + k * 12 + 7, none⟩ = some (.int .i64 s.c.im) ∧ W'.cell? ⟨b2, o2 + k * 12 + 8, none⟩ = some (.int .i64 s.c.den) ∧ W'.cell? ⟨b2, o2 + k * 12 + 9, none⟩ = some (.int .i64 s.d.re) ∧ W'.cell? ⟨b2, o2 + k * 12 + 10, none⟩ = some (.int .i64 s.d.im) ∧ W'.cell? ⟨b2, o2 + k * 12 + 11, none⟩ = some (.int .i64 s.d.den)) := by
        intro W' hW
        have q1 := hc1
        obtain ⟨b1', o1', s1', e1, -, hs1', hat1⟩ := h.at hW hkl
        obtain ⟨b2', o2', s2', e2, -, hs2', hat2⟩ := h'.at hW hkl
        simp only [Option.some.injEq, Addr.mk.injEq, and_true] at e1 e2
        obtain ⟨rfl, rfl⟩ := e1
        obtain ⟨rfl, rfl⟩ := e2
        rw [hs1] at hs1' hs2'
        obtain rfl := Option.some.inj hs1'
        obtain rfl := Option.some.inj hs2'
        exact ⟨hat1.cells, hat2.cells⟩
      clear hs1 hs2 hc1 hc2
      go_upto_region 6 with fail
      go_region_held3 (fun w' => (w'.cell? ⟨b1, o1 + k * 12, none⟩ = some (.int .i64 s.a.re) ∧ w'.cell? ⟨b1, o1 + k * 12 + 1, none⟩ = some (.int .i64 s.a.im) ∧ w'.cell? ⟨b1, o1 + k * 12 + 2, none⟩ = some (.int .i64 s.a.den) ∧ w'.cell? ⟨b1, o1 + k * 12 + 3, none⟩ = some (.int .i64 s.b.re) ∧ w'.cell? ⟨b1, o1 + k * 12 + 4, none⟩ = some (.int .i64 s.b.im) ∧ w'.cell? ⟨b1, o1 + k * 12 + 5, none⟩ = some (.int .i64 s.b.den) ∧ w'.cell? ⟨b1, o1 + k * 12 + 6, none⟩ = some (.int .i64 s.c.re) ∧ w'.cell? ⟨b1, o1 + k * 12 + 7, none⟩ = some (.int .i64 s.c.im) ∧ w'.cell? ⟨b1, o1 + k * 12 + 8, none⟩ = some (.int .i64 s.c.den) ∧ w'.cell? ⟨b1, o1 + k * 12 + 9, none⟩ = some (.int .i64 s.d.re) ∧ w'.cell? ⟨b1, o1 + k * 12 + 10, none⟩ = some (.int .i64 s.d.im) ∧ w'.cell? ⟨b1, o1 + k * 12 + 11, none⟩ = some (.int .i64 s.d.den)) ∧ (w'.cell? ⟨b2, o2 + k * 12, none⟩ = some (.int .i64 s.a.re) ∧ w'.cell? ⟨b2, o2 + k * 12 + 1, none⟩ = some (.int .i64 s.a.im) ∧ w'.cell? ⟨b2, o2 + k * 12 + 2, none⟩ = some (.int .i64 s.a.den) ∧ w'.cell? ⟨b2, o2 + k * 12 + 3, none⟩ = some (.int .i64 s.b.re) ∧ w'.cell? ⟨b2, o2 + k * 12 + 4, none⟩ = some (.int .i64 s.b.im) ∧ w'.cell? ⟨b2, o2 + k * 12 + 5, none⟩ = some (.int .i64 s.b.den) ∧ w'.cell? ⟨b2, o2 + k * 12 + 6, none⟩ = some (.int .i64 s.c.re) ∧ w'.cell? ⟨b2, o2 + k * 12 + 7, none⟩ = some (.int .i64 s.c.im) ∧ w'.cell? ⟨b2, o2 + k * 12 + 8, none⟩ = some (.int .i64 s.c.den) ∧ w'.cell? ⟨b2, o2 + k * 12 + 9, none⟩ = some (.int .i64 s.d.re) ∧ w'.cell? ⟨b2, o2 + k * 12 + 10, none⟩ = some (.int .i64 s.d.im) ∧ w'.cell? ⟨b2, o2 + k * 12 + 11, none⟩ = some (.int .i64 s.d.den))) ((refine h24 _ ?_; (repeat' (first | (with_reducible exact Below.refl _ _) | (with_reducible assumption) | (with_reducible refine Below.alloc ?_ (by first | omega | (simp; done) | (simp; omega)) _) | (with_reducible refine below_drewN ?_ _) | (with_reducible refine Below.drew ?_))))) (first | (go_at_call 20; (with_reducible refine (eqStk_refl s _).mono ?_); rintro e w9 ⟨rfl, hbq⟩; have hB9 : Below w.heap.size w w9 := bstep (by (repeat' (first | (with_reducible exact Below.refl _ _) | (with_reducible assumption) | (with_reducible refine Below.alloc ?_ (by first | omega | (simp; done) | (simp; omega)) _) | (with_reducible refine below_drewN ?_ _) | (with_reducible refine Below.drew ?_)))) hbq (by first | omega | (simp; done) | (simp; omega)); clear hbq))
      go_wp2
      go_roundw
      case rel => exact ⟨k + 1, by omega, by go_num, by (repeat' (first | (with_reducible exact Below.refl _ _) | (with_reducible assumption) | (with_reducible refine Below.setCell ?_ (by first | omega | (simp; done) | (simp; omega)) _) | (with_reducible refine Below.alloc ?_ (by first | omega | (simp; done) | (simp; omega)) _) | (with_reducible refine below_drewN ?_ _) | (with_reducible refine Below.drew ?_)))⟩
      case measure => simp [intOf]; omega
    · go_wp2
      go_ret
      exact ⟨rfl, by (repeat' (first | (with_reducible exact Below.refl _ _) | (with_reducible assumption) | (with_reducible refine Below.setCell ?_ (by first | omega | (simp; done) | (simp; omega)) _) | (with_reducible refine Below.alloc ?_ (by first | omega | (simp; done) | (simp; omega)) _) | (with_reducible refine below_drewN ?_ _) | (with_reducible refine Below.drew ?_)))⟩
end Go.Proofs.YtejkeihgcggmbaaDoor
