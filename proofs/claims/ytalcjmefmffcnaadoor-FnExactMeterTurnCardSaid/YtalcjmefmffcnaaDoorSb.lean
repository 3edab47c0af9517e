/-
  The walks of the helpers of the statements on lists of fractions: handed over, compared.
-/
import Derived.Test.YtalcjmefmffcnaaDoorPj
import Derived.Test.YtalcjmefmffcnaaDoorPc
import Derived.Deep.RegionHeld3
import Derived.Test.YtalcjmefmffcnaaDoorRows
namespace Go.Proofs.YtalcjmefmffcnaaDoor
set_option linter.unusedSimpArgs false
set_option linter.unusedVariables false
open Go.RowKit
def zsa : Sta := ⟨0, 0⟩
theorem put_stepA {xs : List Sta} {n k : Nat} {s : Sta} (hn : xs.length = n) (hk : k < n) (hs : xs[k]? = some s) : (xs.take k ++ List.replicate (n - k) zsa).set k s = xs.take (k + 1) ++ List.replicate (n - (k + 1)) zsa := by
  have hl : (xs.take k).length = k := by rw [List.length_take]; omega
  rw [List.set_append, if_neg (by omega), hl, Nat.sub_self, show n - k = n - (k + 1) + 1 by omega, List.replicate_succ, List.set_cons_zero, List.take_add_one, hs]
  simp
theorem rowA_zero (n : Nat) : rowA (List.replicate n zsa) = (madeCells #[.int .i64 0, .int .i64 0] (n * 2)).toList := by
  have h1 : rowA (List.replicate n zsa) = List.replicate (n * 2) (.int .i64 0) := by
    rw [List.eq_replicate_iff]
    exact ⟨by rw [rowA_length, List.length_replicate], fun u hu => by
      simp only [rowA, List.mem_flatMap, List.mem_replicate, staL, List.mem_cons, List.not_mem_nil, or_false] at hu
      obtain ⟨s, ⟨_, rfl⟩, rfl | rfl⟩ := hu <;> rfl⟩
  have h2 : (madeCells #[.int .i64 0, .int .i64 0] (n * 2)).toList = List.replicate (n * 2) (.int .i64 0) := by
    rw [List.eq_replicate_iff]
    refine ⟨by simp [madeCells], fun u hu => ?_⟩
    simp [madeCells] at hu
    obtain ⟨x, _, rfl⟩ := hu
    have hx : x % 2 < 2 := Nat.mod_lt _ (by omega)
    generalize x % 2 = y at hx ⊢
    match y, hx with
    | 0, _ => rfl
    | 1, _ => rfl
  rw [h1, h2]
set_option maxRecDepth 100000 in
set_option maxHeartbeats 1000000 in
theorem toSta_any (a : Sta) (w : World) : Calls Tryd.prog 15 #[stv a] w fun e w' => e = .returned (stv a) ∧ Below w.heap.size w w' := by
  go_enter Tryd.func15, Tryd.ntmps15
  go_wp2
  exact bodyPost_ret (v := stv a) (by simp [results, Tryd.results15, go_sem, *]) rfl ⟨rfl, by exact below_⟩
set_option maxRecDepth 100000 in
set_option maxHeartbeats 1000000 in
theorem eqSta_refl (a : Sta) (w : World) : Calls Tryd.prog 74 #[stv a, stv a] w fun e w' => e = .returned (.bool true) ∧ Below w.heap.size w w' := by
  go_enter Tryd.func74, Tryd.ntmps74
  go_wp2
  all_goals exact bodyPost_ret (v := .bool true) (by simp [results, Tryd.results74, go_sem, *]) rfl ⟨rfl, by exact below_⟩
theorem szA_any (A : Option Addr) (len cap : Nat) (n : Int) (w : World) (h : (len : Int) ≤ n) (hn : n ≤ 1048576) :
    Calls Tryd.prog 30 #[.slice A len cap, .int .i64 n] w fun e w' => e = .returned (.int .i64 (n - len)) ∧ Below w.heap.size w w' := by
  go_enter Tryd.func30, Tryd.ntmps30
  go_wp2
  all_goals go_ret
  all_goals exact ⟨by go_num, by exact below_⟩
theorem szA_far (A : Option Addr) (len cap : Nat) (w : World) (h : 1048576 < len) (h2 : len ≤ 9223372036854775807) :
    Calls Tryd.prog 30 #[.slice A len cap, .int .i64 1048576] w fun e w' => e = .returned (.int .i64 (-1)) ∧ Below w.heap.size w w' := by
  go_enter Tryd.func30, Tryd.ntmps30
  go_wp2
  all_goals go_ret
  all_goals exact ⟨by go_num, by exact below_⟩
set_option maxRecDepth 100000 in
set_option maxHeartbeats 1000000 in
theorem eqSas_refl (A A' : Option Addr) (len cap cap' : Nat) (xs : List Sta) (w : World) (h : Sas A len cap xs w) (h' : Sas A' len cap' xs w) :
    Calls Tryd.prog 32 #[.slice A len cap, .slice A' len cap'] w fun e w' => e = .returned (.bool true) ∧ Below w.heap.size w w' := by
  have hl := h.2.1
  have hm := h.2.2.1
  go_enter Tryd.func32, Tryd.ntmps32
  go_wp2
  go_loopw [5] (fun i wr => ∃ k : Nat, k ≤ len ∧ i = .int .i64 k ∧ Below w.heap.size w wr) (fun i _ => len - (intOf i).toNat)
  case atStart => exact ⟨0, Nat.zero_le _, rfl, Below.refl _ _⟩
  case round =>
    obtain ⟨k, hk, rfl, hb⟩ := hrel
    have hz := hb.size
    by_cases hkl : k < len
    · obtain ⟨b1, o1, s, rfl, hlt1, hs1, hc1⟩ := h.at hb hkl
      obtain ⟨b2, o2, s2, rfl, hlt2, hs2, hc2⟩ := h'.at hb hkl
      obtain rfl : s = s2 := by rw [hs1] at hs2; exact Option.some.inj hs2
      obtain ⟨c0, c1⟩ := hc1
      obtain ⟨d0, d1⟩ := hc2
      have HS1 := Lib.hid hs1
      clear hs1 hs2
      go_wp2
      go_region_held3 (fun w' => w'.cell? ⟨b1, o1 + k * 2, none⟩ = some (.int .i64 s.p) ∧ w'.cell? ⟨b1, o1 + k * 2 + 1, none⟩ = some (.int .i64 s.q) ∧ w'.cell? ⟨b2, o2 + k * 2, none⟩ = some (.int .i64 s.p) ∧ w'.cell? ⟨b2, o2 + k * 2 + 1, none⟩ = some (.int .i64 s.q)) ((first | go_keep | (simp [go_sem, *]; done))) (first | (go_at_call 74; (with_reducible refine (eqSta_refl s _).mono ?_); rintro e w1 ⟨rfl, hb⟩; obtain ⟨hc, hf⟩ := bf hb (w.heap.size) side_; have hs := hb.size; (try simp only [World.size_alloc, World.size_setCell, World.size_drew, World.heap_drewN] at hs); have hl : w.heap.size ≤ w1.heap.size := (by omega); have hB : Below w.heap.size w w1 := bstep (by exact below_) hb side_; clear hs hb))
      go_wp2
      go_roundw
      case rel => exact ⟨k + 1, by omega, by go_num, by exact below_⟩
      case measure => simp [intOf]; omega
    · go_wp2
      go_ret
      exact ⟨rfl, by exact below_⟩
theorem infoSa : (Tryd.prog.info? 29).map (fun i => (i.zero, i.size, i.bytes)) = some (some (.agg #[.int .i64 0, .int .i64 0]), 2, 16) := by kernel_rfl
set_option maxRecDepth 100000 in
set_option maxHeartbeats 1000000 in
theorem toSas_any (A : Option Addr) (len cap : Nat) (xs : List Sta) (w : World) (h : Sas A len cap xs w) (hbig : len ≤ 1048576) :
    Calls Tryd.prog 31 #[.slice A len cap] w fun e w' => ∃ v, e = .returned v ∧ OwA w.heap.size v xs w' ∧ Below w.heap.size w w' := by
  obtain ⟨i0, hi, hz0, hz1, hz2⟩ := info_parts infoSa
  have hl := h.2.1
  have hm := h.2.2.1
  have hxl := h.1
  go_enter Tryd.func31, Tryd.ntmps31
  go_wp2_with (at_make; refine wpList_make_full _ rfl _ _ 45 rfl w.heap.size 29 i0 (.agg #[.int .i64 0, .int .i64 0]) 2 Tryd.underlying45 hi hz0 hz1 .i64 .i64 len len len rfl rfl rfl rfl (by rw [hz2]; omega) (by unfold maxLen; omega) (Nat.le_refl _) ?_)
  intro w1 hown hgr
  have hO : OwA w.heap.size (.slice (some ⟨w.heap.size, 0, none⟩) len len) (List.replicate len zsa) w1 := by
    unfold OwA
    rw [List.length_replicate, rowA_zero]
    exact hown
  have hb : Below w.heap.size w w1 := (Below.refl _ _).grown hgr (Nat.le_refl _) (fun k hk => by cases hk)
  clear hown hgr
  go_wp2
  go_loopw [4] (fun i wr => ∃ k : Nat, k ≤ len ∧ i = .int .i64 k ∧ OwA w.heap.size (.slice (some ⟨w.heap.size, 0, none⟩) len len) (xs.take k ++ List.replicate (len - k) zsa) wr ∧ Below w.heap.size w wr) (fun i _ => len - (intOf i).toNat)
  case atStart => exact ⟨0, Nat.zero_le _, rfl, by simpa using hO, hb⟩
  case round =>
    clear hO hb
    obtain ⟨k, hk, rfl, hO, hb⟩ := hrel
    have hz := hb.size
    by_cases hkl : k < len
    · obtain ⟨b1, o1, s, rfl, hlt1, hs1, hc1⟩ := h.at hb hkl
      obtain ⟨c0, c1⟩ := hc1
      have HS1 := Lib.hid hs1
      clear hs1
      go_wp2_with (go_at_call 15; refine (toSta_any s _).mono ?_; rintro e w1 ⟨rfl, hbt⟩; have hO1 := hO.below hbt; have hB1 : Below w.heap.size w w1 := bstep hb hbt hz; have hxk : (List.take k xs ++ List.replicate (len - k) zsa)[k]? = some zsa := (by rw [List.getElem?_append_right (by rw [List.length_take]; omega), List.length_take, Nat.min_eq_left (by omega), Nat.sub_self, List.getElem?_replicate, if_pos (by omega)]); obtain ⟨g, cp, hv, -, hg, hat, hfz⟩ := hO1.at k zsa hxk; clear hxk hbt; simp only [Value.slice.injEq, Option.some.injEq, Addr.mk.injEq, and_true, true_and] at hv; obtain ⟨rfl, hv1, rfl⟩ := hv; clear hv1; obtain ⟨z0, z1⟩ := hat; obtain ⟨f0, f1⟩ := hfz)
      go_roundw
      case rel =>
        refine ⟨k + 1, by omega, by go_num, ?_, by exact below_⟩
        have := hO1.put (g := w.heap.size) rfl k (by rw [List.length_append, List.length_take, List.length_replicate]; omega) s
        rwa [put_stepA hxl hkl HS1.out] at this
      case measure => simp [intOf]; omega
    · go_wp2
      go_ret
      have e : k = len := by omega
      subst e
      rw [Nat.sub_self, List.replicate_zero, List.append_nil, List.take_of_length_le (by omega)] at hO
      exact ⟨_, rfl, hO, hb⟩
end Go.Proofs.YtalcjmefmffcnaaDoor
