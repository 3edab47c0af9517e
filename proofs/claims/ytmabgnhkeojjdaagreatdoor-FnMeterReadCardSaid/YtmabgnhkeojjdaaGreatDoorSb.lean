/-
  The walks of the helpers of the statements on lists of fractions: handed over, compared.
-/
import Derived.Test.YtmabgnhkeojjdaaGreatDoorPj
import Derived.Test.YtmabgnhkeojjdaaGreatDoorPc
import Derived.Deep.RegionHeld3
import Derived.Test.YtmabgnhkeojjdaaGreatDoorRows
namespace Go.Proofs.YtmabgnhkeojjdaaGreatDoor
set_option linter.unusedSimpArgs false
set_option linter.unusedVariables false
open Go.RowKit
def zsa : Sta := ⟨0, 0⟩
theorem put_stepA {xs : List Sta} {n k : Nat} {s : Sta} (hn : xs.length = n) (hk : k < n) (hs : xs[k]? = some s) : (xs.take k ++ List.replicate (n - k) zsa).set k s = xs.take (k + 1) ++ List.replicate (n - (k + 1)) zsa := by
  have hl : (xs.take k).length = k := by rw [List.length_take]; omega
  rw [List.set_append, if_neg (by omega), hl, Nat.sub_self, show n - k = n - (k + 1) + 1 by omega, List.replicate_succ, List.set_cons_zero, List.take_add_one, hs]
  simp
theorem rowA_zero (n : Nat) : rowA (List.replicate n zsa) = (madeCells #[.int .i64 0, .int .i64 0] (n * 2)).toList := by
  have h1 : rowA (List.replicate n zsa) = List.replicate (n * 2) (.int .i64 0) := by
    rw [List.eq_replicate_iff]
    exact ⟨by rw [rowA_length, List.length_replicate], fun u hu => by
      simp only [rowA, List.mem_flatMap, List.mem_replicate, staL, List.mem_cons, List.not_mem_nil, or_false] at hu
      obtain ⟨s, ⟨_, rfl⟩, rfl | rfl⟩ := hu <;> rfl⟩
  have h2 : (madeCells #[.int .i64 0, .int .i64 0] (n * 2)).toList = List.replicate (n * 2) (.int .i64 0) := by
    rw [List.eq_replicate_iff]
    refine ⟨by simp [madeCells], fun u hu => ?_⟩
    simp [madeCells] at hu
    obtain ⟨x, _, rfl⟩ := hu
    have hx : x % 2 < 2 := Nat.mod_lt _ (by omega)
    generalize x % 2 = y at hx ⊢
    match y, hx with
    | 0, _ => rfl
    | 1, _ => rfl
  rw [h1, h2]
theorem infoSa : (Tryz.prog.info? 40).map (fun i => (i.zero, i.size, i.bytes)) = some (some (.agg #[.int .i64 0, .int .i64 0]), 2, 16) := by kernel_rfl
end Go.Proofs.YtmabgnhkeojjdaaGreatDoor
