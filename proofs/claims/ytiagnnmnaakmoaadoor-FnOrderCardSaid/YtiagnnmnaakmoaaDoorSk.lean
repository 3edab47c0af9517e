/-
  The walks of the helpers of the statements on lists of sections that write: handed over, marked, held.
-/
import Derived.Test.YtiagnnmnaakmoaaDoorSl
namespace Go.Proofs.YtiagnnmnaakmoaaDoor
set_option linter.unusedSimpArgs false
set_option linter.unusedVariables false
open Go.RowKit
theorem infoSec : (Tryd.prog.info? 59).map (fun i => (i.zero, i.size, i.bytes)) = some (some (.agg #[.int .i64 0, .int .i64 0, .int .i64 0, .int .i64 0]), 4, 32) := by kernel_rfl
set_option maxRecDepth 100000 in
set_option maxHeartbeats 1000000 in
theorem toSecs_any (A : Option Addr) (len cap : Nat) (xs : List Sec) (w : World) (h : Secs A len cap xs w) (hbig : len ≤ 1048576) :
    Calls Tryd.prog 9 #[.slice A len cap] w fun e w' => ∃ v, e = .returned v ∧ Own w.heap.size v xs w' ∧ Below w.heap.size w w' := by
  obtain ⟨i0, hi, hz0, hz1, hz2⟩ := info_parts infoSec
  have hl := h.2.1
  have hm := h.2.2.1
  have hxl := h.1
  go_enter Tryd.func9, Tryd.ntmps9
  go_wp2_with (at_make; refine wpList_make_full _ rfl _ _ 29 rfl w.heap.size 59 i0 (.agg #[.int .i64 0, .int .i64 0, .int .i64 0, .int .i64 0]) 4 Tryd.underlying29 hi hz0 hz1 .i64 .i64 len len len rfl rfl rfl rfl (by rw [hz2]; omega) (by unfold maxLen; omega) (Nat.le_refl _) ?_)
  intro w1 hown hgr
  have hO : Own w.heap.size (.slice (some ⟨w.heap.size, 0, none⟩) len len) (List.replicate len zsec) w1 := by
    unfold Own
    rw [List.length_replicate, rowL_zero]
    exact hown
  have hb : Below w.heap.size w w1 := (Below.refl _ _).grown hgr (Nat.le_refl _) (fun k hk => by cases hk)
  clear hown hgr
  go_wp2
  go_loopw [4] (fun i wr => ∃ k : Nat, k ≤ len ∧ i = .int .i64 k ∧ Own w.heap.size (.slice (some ⟨w.heap.size, 0, none⟩) len len) (xs.take k ++ List.replicate (len - k) zsec) wr ∧ Below w.heap.size w wr) (fun i _ => len - (intOf i).toNat)
  case atStart => exact ⟨0, Nat.zero_le _, rfl, by simpa using hO, hb⟩
  case round =>
    clear hO hb
    obtain ⟨k, hk, rfl, hO, hb⟩ := hrel
    have hz := hb.size
    by_cases hkl : k < len
    · obtain ⟨b1, o1, s, rfl, hlt1, hs1, hc1⟩ := h.at hb hkl
      obtain ⟨c0, c1, c2, c3⟩ := hc1
      have HS1 := Lib.hid hs1
      clear hs1
      go_wp2_with (go_at_call 26; refine (toSec_any s _).mono ?_; rintro e w1 ⟨rfl, hbt⟩; have hO1 := hO.below hbt; have hB1 : Below w.heap.size w w1 := bstep hb hbt hz; have hxk : (List.take k xs ++ List.replicate (len - k) zsec)[k]? = some zsec := (by rw [List.getElem?_append_right (by rw [List.length_take]; omega), List.length_take, Nat.min_eq_left (by omega), Nat.sub_self, List.getElem?_replicate, if_pos (by omega)]); obtain ⟨g, cp, hv, -, hg, hat, hfz⟩ := hO1.at k zsec hxk; clear hxk hbt; simp only [Value.slice.injEq, Option.some.injEq, Addr.mk.injEq, and_true, true_and] at hv; obtain ⟨rfl, hv1, rfl⟩ := hv; clear hv1; obtain ⟨z0, z1, z2, z3⟩ := hat; obtain ⟨f0, f1, f2, f3⟩ := hfz)
      go_roundw
      case rel =>
        refine ⟨k + 1, by omega, by go_num, ?_, by exact below_⟩
        have := hO1.put (g := w.heap.size) rfl k (by rw [List.length_append, List.length_take, List.length_replicate]; omega) s
        rwa [put_step hxl hkl HS1.out] at this
      case measure => simp [intOf]; omega
    · go_wp2
      go_ret
      have e : k = len := by omega
      subst e
      rw [Nat.sub_self, List.replicate_zero, List.append_nil, List.take_of_length_le (by omega)] at hO
      exact ⟨_, rfl, hO, hb⟩
end Go.Proofs.YtiagnnmnaakmoaaDoor
