/-
  The walks of the helpers of the statements on lists of fractions: handed over, compared.
-/
import Derived.Test.YtejkeihgcggmbaaDoorLf
import Derived.Test.YtejkeihgcggmbaaDoorLa
import Derived.Deep.RegionHeld3
import Derived.Test.YtejkeihgcggmbaaDoorRows
namespace Go.Proofs.YtejkeihgcggmbaaDoor
set_option linter.unusedSimpArgs false
set_option linter.unusedVariables false
open Go.RowKit
def zfr : Fr := ⟨0, 0, 0⟩
theorem put_stepF {xs : List Fr} {n k : Nat} {s : Fr} (hn : xs.length = n) (hk : k < n) (hs : xs[k]? = some s) : (xs.take k ++ List.replicate (n - k) zfr).set k s = xs.take (k + 1) ++ List.replicate (n - (k + 1)) zfr := by
  have hl : (xs.take k).length = k := by rw [List.length_take]; omega
  rw [List.set_append, if_neg (by omega), hl, Nat.sub_self, show n - k = n - (k + 1) + 1 by omega, List.replicate_succ, List.set_cons_zero, List.take_add_one, hs]
  simp
theorem rowF_zero (n : Nat) : rowF (List.replicate n zfr) = (madeCells #[.int .i64 0, .int .i64 0, .int .i64 0] (n * 3)).toList := by
  have h1 : rowF (List.replicate n zfr) = List.replicate (n * 3) (.int .i64 0) := by
    rw [List.eq_replicate_iff]
    exact ⟨by rw [rowF_length, List.length_replicate], fun u hu => by
      simp only [rowF, List.mem_flatMap, List.mem_replicate, fracL, List.mem_cons, List.not_mem_nil, or_false] at hu
      obtain ⟨s, ⟨_, rfl⟩, rfl | rfl | rfl⟩ := hu <;> rfl⟩
  have h2 : (madeCells #[.int .i64 0, .int .i64 0, .int .i64 0] (n * 3)).toList = List.replicate (n * 3) (.int .i64 0) := by
    rw [List.eq_replicate_iff]
    refine ⟨by simp [madeCells], fun u hu => ?_⟩
    simp [madeCells] at hu
    obtain ⟨x, _, rfl⟩ := hu
    have hx : x % 3 < 3 := Nat.mod_lt _ (by omega)
    generalize x % 3 = y at hx ⊢
    match y, hx with
    | 0, _ => rfl
    | 1, _ => rfl
    | 2, _ => rfl
  rw [h1, h2]
theorem szF_any (A : Option Addr) (len cap : Nat) (n : Int) (w : World) (h : (len : Int) ≤ n) (hn : n ≤ 1048576) :
    Calls Tryd.prog 5 #[.slice A len cap, .int .i64 n] w fun e w' => e = .returned (.int .i64 (n - len)) ∧ Below w.heap.size w w' := by
  go_enter Tryd.func5, Tryd.ntmps5
  go_wp2
  all_goals go_ret
  all_goals exact ⟨by go_num, by (repeat' (first | (with_reducible exact Below.refl _ _) | (with_reducible assumption) | (with_reducible refine Below.setCell ?_ (by first | omega | (simp; done) | (simp; omega)) _) | (with_reducible refine Below.alloc ?_ (by first | omega | (simp; done) | (simp; omega)) _) | (with_reducible refine below_drewN ?_ _) | (with_reducible refine Below.drew ?_)))⟩
theorem szF_far (A : Option Addr) (len cap : Nat) (w : World) (h : 1048576 < len) (h2 : len ≤ 9223372036854775807) :
    Calls Tryd.prog 5 #[.slice A len cap, .int .i64 1048576] w fun e w' => e = .returned (.int .i64 (-1)) ∧ Below w.heap.size w w' := by
  go_enter Tryd.func5, Tryd.ntmps5
  go_wp2
  all_goals go_ret
  all_goals exact ⟨by go_num, by (repeat' (first | (with_reducible exact Below.refl _ _) | (with_reducible assumption) | (with_reducible refine Below.setCell ?_ (by first | omega | (simp; done) | (simp; omega)) _) | (with_reducible refine Below.alloc ?_ (by first | omega | (simp; done) | (simp; omega)) _) | (with_reducible refine below_drewN ?_ _) | (with_reducible refine Below.drew ?_)))⟩
set_option maxRecDepth 100000 in
set_option maxHeartbeats 1000000 in
theorem eqFrs_refl (A A' : Option Addr) (len cap cap' : Nat) (xs : List Fr) (w : World) (h : Frs A len cap xs w) (h' : Frs A' len cap' xs w) :
    Calls Tryd.prog 12 #[.slice A len cap, .slice A' len cap'] w fun e w' => e = .returned (.bool true) ∧ Below w.heap.size w w' := by
  have hl := h.2.1
  have hm := h.2.2.1
  go_enter Tryd.func12, Tryd.ntmps12
  go_wp2
  go_loopw [5] (fun i wr => ∃ k : Nat, k ≤ len ∧ i = .int .i64 k ∧ Below w.heap.size w wr) (fun i _ => len - (intOf i).toNat)
  case atStart => exact ⟨0, Nat.zero_le _, rfl, Below.refl _ _⟩
  case round =>
    obtain ⟨k, hk, rfl, hb⟩ := hrel
    have hz := hb.size
    by_cases hkl : k < len
    · obtain ⟨b1, o1, s, rfl, hlt1, hs1, hc1⟩ := h.at hb hkl
      obtain ⟨b2, o2, s2, rfl, hlt2, hs2, hc2⟩ := h'.at hb hkl
      obtain rfl : s = s2 := by rw [hs1] at hs2; exact Option.some.inj hs2
      obtain ⟨c0, c1, c2⟩ := hc1
      obtain ⟨d0, d1, d2⟩ := hc2
      have HS1 := Lib.hid hs1
      clear hs1 hs2
      go_wp2
      go_region_held3 (fun w' => w'.cell? ⟨b1, o1 + k * 3, none⟩ = some (.int .i64 s.re) ∧ w'.cell? ⟨b1, o1 + k * 3 + 1, none⟩ = some (.int .i64 s.im) ∧ w'.cell? ⟨b1, o1 + k * 3 + 2, none⟩ = some (.int .i64 s.den) ∧ w'.cell? ⟨b2, o2 + k * 3, none⟩ = some (.int .i64 s.re) ∧ w'.cell? ⟨b2, o2 + k * 3 + 1, none⟩ = some (.int .i64 s.im) ∧ w'.cell? ⟨b2, o2 + k * 3 + 2, none⟩ = some (.int .i64 s.den)) ((first | go_keep | (simp [go_sem, *]; done))) (first | (go_at_call 19; (with_reducible refine (eqFrac_refl s _).mono ?_); rintro e w1 ⟨rfl, hb⟩; obtain ⟨hc, hf⟩ := bf hb (w.heap.size) (by first | omega | (simp; done) | (simp; omega)); have hs := hb.size; (try simp only [World.size_alloc, World.size_setCell, World.size_drew, World.heap_drewN] at hs); have hl : w.heap.size ≤ w1.heap.size := (by omega); have hB : Below w.heap.size w w1 := bstep (by (repeat' (first | (with_reducible exact Below.refl _ _) | (with_reducible assumption) | (with_reducible refine Below.setCell ?_ (by first | omega | (simp; done) | (simp; omega)) _) | (with_reducible refine Below.alloc ?_ (by first | omega | (simp; done) | (simp; omega)) _) | (with_reducible refine below_drewN ?_ _) | (with_reducible refine Below.drew ?_)))) hb (by first | omega | (simp; done) | (simp; omega)); clear hs hb))
      go_wp2
      go_roundw
      case rel => exact ⟨k + 1, by omega, by go_num, by (repeat' (first | (with_reducible exact Below.refl _ _) | (with_reducible assumption) | (with_reducible refine Below.setCell ?_ (by first | omega | (simp; done) | (simp; omega)) _) | (with_reducible refine Below.alloc ?_ (by first | omega | (simp; done) | (simp; omega)) _) | (with_reducible refine below_drewN ?_ _) | (with_reducible refine Below.drew ?_)))⟩
      case measure => simp [intOf]; omega
    · go_wp2
      go_ret
      exact ⟨rfl, by (repeat' (first | (with_reducible exact Below.refl _ _) | (with_reducible assumption) | (with_reducible refine Below.setCell ?_ (by first | omega | (simp; done) | (simp; omega)) _) | (with_reducible refine Below.alloc ?_ (by first | omega | (simp; done) | (simp; omega)) _) | (with_reducible refine below_drewN ?_ _) | (with_reducible refine Below.drew ?_)))⟩
theorem infoFr : (Tryd.prog.info? 27).map (fun i => (i.zero, i.size, i.bytes)) = some (some (.agg #[.int .i64 0, .int .i64 0, .int .i64 0]), 3, 24) := by kernel_rfl
set_option maxRecDepth 100000 in
set_option maxHeartbeats 1000000 in
theorem toFrs_any (A : Option Addr) (len cap : Nat) (xs : List Fr) (w : World) (h : Frs A len cap xs w) (hbig : len ≤ 1048576) :
    Calls Tryd.prog 8 #[.slice A len cap] w fun e w' => ∃ v, e = .returned v ∧ OwF w.heap.size v xs w' ∧ Below w.heap.size w w' := by
  obtain ⟨i0, hi, hz0, hz1, hz2⟩ := info_parts infoFr
  have hl := h.2.1
  have hm := h.2.2.1
  have hxl := h.1
  go_enter Tryd.func8, Tryd.ntmps8
  go_wp2_with (at_make; refine wpList_make_full _ rfl _ _ 33 rfl w.heap.size 27 i0 (.agg #[.int .i64 0, .int .i64 0, .int .i64 0]) 3 Tryd.underlying33 hi hz0 hz1 .i64 .i64 len len len rfl rfl rfl rfl (by rw [hz2]; omega) (by unfold maxLen; omega) (Nat.le_refl _) ?_)
  intro w1 hown hgr
  have hO : OwF w.heap.size (.slice (some ⟨w.heap.size, 0, none⟩) len len) (List.replicate len zfr) w1 := by
    unfold OwF
    rw [List.length_replicate, rowF_zero]
    exact hown
  have hb : Below w.heap.size w w1 := (Below.refl _ _).grown hgr (Nat.le_refl _) (fun k hk => by cases hk)
  clear hown hgr
  go_wp2
  go_loopw [4] (fun i wr => ∃ k : Nat, k ≤ len ∧ i = .int .i64 k ∧ OwF w.heap.size (.slice (some ⟨w.heap.size, 0, none⟩) len len) (xs.take k ++ List.replicate (len - k) zfr) wr ∧ Below w.heap.size w wr) (fun i _ => len - (intOf i).toNat)
  case atStart => exact ⟨0, Nat.zero_le _, rfl, by simpa using hO, hb⟩
  case round =>
    clear hO hb
    obtain ⟨k, hk, rfl, hO, hb⟩ := hrel
    have hz := hb.size
    by_cases hkl : k < len
    · obtain ⟨b1, o1, s, rfl, hlt1, hs1, hc1⟩ := h.at hb hkl
      obtain ⟨c0, c1, c2⟩ := hc1
      have HS1 := Lib.hid hs1
      clear hs1
      go_wp2_with (go_at_call 16; refine (toFrac_any s _).mono ?_; rintro e w1 ⟨rfl, hbt⟩; have hO1 := hO.below hbt; have hB1 : Below w.heap.size w w1 := bstep hb hbt hz; have hxk : (List.take k xs ++ List.replicate (len - k) zfr)[k]? = some zfr := (by rw [List.getElem?_append_right (by rw [List.length_take]; omega), List.length_take, Nat.min_eq_left (by omega), Nat.sub_self, List.getElem?_replicate, if_pos (by omega)]); obtain ⟨g, cp, hv, -, hg, hat, hfz⟩ := hO1.at k zfr hxk; clear hxk hbt; simp only [Value.slice.injEq, Option.some.injEq, Addr.mk.injEq, and_true, true_and] at hv; obtain ⟨rfl, hv1, rfl⟩ := hv; clear hv1; obtain ⟨z0, z1, z2⟩ := hat; obtain ⟨f0, f1, f2⟩ := hfz)
      go_roundw
      case rel =>
        refine ⟨k + 1, by omega, by go_num, ?_, by (repeat' (first | (with_reducible exact Below.refl _ _) | (with_reducible assumption) | (with_reducible refine Below.setCell ?_ (by first | omega | (simp; done) | (simp; omega)) _) | (with_reducible refine Below.alloc ?_ (by first | omega | (simp; done) | (simp; omega)) _) | (with_reducible refine below_drewN ?_ _) | (with_reducible refine Below.drew ?_)))⟩
        have := hO1.put (g := w.heap.size) rfl k (by rw [List.length_append, List.length_take, List.length_replicate]; omega) s
        rwa [put_stepF hxl hkl HS1.out] at this
      case measure => simp [intOf]; omega
    · go_wp2
      go_ret
      have e : k = len := by omega
      subst e
      rw [Nat.sub_self, List.replicate_zero, List.append_nil, List.take_of_length_le (by omega)] at hO
      exact ⟨_, rfl, hO, hb⟩
end Go.Proofs.YtejkeihgcggmbaaDoor
