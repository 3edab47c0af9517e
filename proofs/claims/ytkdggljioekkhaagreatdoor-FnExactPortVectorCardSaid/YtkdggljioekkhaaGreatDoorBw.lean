/-
  The walks of the reference's decimals and of its reading of one number.
-/
import Derived.Test.YtkdggljioekkhaaGreatDoorSp
import Derived.Test.YtkdggljioekkhaaGreatDoorBb
import Derived.Laws.DeepStrings4
import Derived.Laws.IdiomStrings
import Derived.Lib.ConvBytes
import Derived.WalkSpells
import Derived.Deep.CutRange
import Derived.Deep.RegionHeld3
namespace Go.Proofs.YtkdggljioekkhaaGreatDoor
set_option linter.unusedSimpArgs false
set_option linter.unusedVariables false
open Go.RowKit
attribute [local go_sem ↓] Go.wp_at_zero Go.wp_at_succ
theorem conv_one (c : UInt8) (W : World) (b : Nat) (h : W.cell? ⟨b, 0, none⟩ = some (.int .u8 (c.toNat : Int))) :
    (convert 131 9 (.slice (some ⟨b, 0, none⟩) 1 1)).run Tryz.prog W = .ok (.string ⟨#[c]⟩) W := by
  refine run_convert_bytes_back W 131 9 5 ⟨b, 0, none⟩ 1 [c] Tryz.underlying131 Tryz.underlying5 Tryz.underlying9 fun j hj => ?_
  obtain rfl : j = 0 := by simpa using hj
  have : (⟨b, 0, none⟩ : Addr).add 0 = ⟨b, 0, none⟩ := rfl
  rw [this, h]
  rfl
theorem dig_nat {u : Nat} (hu : u < 10) : ((UInt8.ofNat (48 + u)).toNat : Int) = 48 + (u : Int) := by
  rw [digit_toNat hu]; omega
set_option maxRecDepth 100000 in
set_option maxHeartbeats 4000000 in
theorem sdec_one (u : Nat) (hu : u < 10) (w : World) : Calls Tryz.prog 124 #[.int .i64 u] w fun e w' => e = .returned (.string ⟨(Lib.decDigits u).toArray⟩) ∧ Below w.heap.size w w' := by
  rw [Lib.decDigits_one hu]
  have h1 : ¬ ((u : Int) < -9223372036854775807) := by omega
  have h2 : ¬ ((u : Int) < 0) := by omega
  have h3 : (u : Int) < 10 := by omega
  have h4 : IntKind.i64.wrap (48 + (u : Int)) = 48 + u := IntWalk.i64_in _ (by omega)
  have hc := conv_one (UInt8.ofNat (48 + u)) (w.alloc (.cells #[.int .u8 (48 + (u : Int))] 5)) w.heap.size (by rw [dig_nat hu]; exact World.cell?_alloc_at _ _ _ _ rfl)
  go_enter Tryz.func124, Tryz.ntmps124
  go_wp2
  go_ret
  exact ⟨rfl, by exact below_⟩
set_option maxRecDepth 100000 in
set_option maxHeartbeats 8000000 in
theorem sdec_step (u : Nat) (hu : ¬ u < 10) (hb : u < 1000000000) (w : World) (ih : ∀ w, Calls Tryz.prog 124 #[.int .i64 ((u / 10 : Nat) : Int)] w fun e w' => e = .returned (.string ⟨(Lib.decDigits (u / 10)).toArray⟩) ∧ Below w.heap.size w w') :
    Calls Tryz.prog 124 #[.int .i64 u] w fun e w' => e = .returned (.string ⟨(Lib.decDigits u).toArray⟩) ∧ Below w.heap.size w w' := by
  rw [decDigits_rec u hu]
  have h1 : ¬ ((u : Int) < -9223372036854775807) := by omega
  have h2 : ¬ ((u : Int) < 0) := by omega
  have h3 : ¬ ((u : Int) < 10) := by omega
  obtain ⟨r, hr⟩ : ∃ r, u % 10 = r := ⟨_, rfl⟩
  obtain ⟨q, hq⟩ : ∃ q, u / 10 = q := ⟨_, rfl⟩
  rw [hr, hq]
  rw [hq] at ih
  have hr9 : r < 10 := by omega
  have e1 : IntKind.i64.wrap (Int.tdiv (u : Int) 10) = q := by
    rw [← hq, show Int.tdiv (u : Int) 10 = ((u / 10 : Nat) : Int) from rfl]
    exact IntWalk.i64_in _ (by omega)
  have e1' : IntKind.i64.wrap ((u : Int) / 10) = q := by
    rw [← hq, show (u : Int) / 10 = ((u / 10 : Nat) : Int) from rfl]
    exact IntWalk.i64_in _ (by omega)
  have e5 : IntKind.u8.wrap (48 + (r : Int)) = 48 + r := by
    rw [show IntKind.u8.wrap (48 + (r : Int)) = (48 + (r : Int)) % 256 from rfl]; omega
  have e2 : Int.tmod (u : Int) 10 = r := by rw [← hr]; rfl
  have e4 : IntKind.i64.wrap (48 + (r : Int)) = 48 + r := IntWalk.i64_in _ (by omega)
  have hcv := fun W b (h : W.cell? ⟨b, 0, none⟩ = some (.int .u8 (48 + (r : Int)))) => conv_one (UInt8.ofNat (48 + r)) W b (by rw [dig_nat hr9]; exact h)
  have HQ := Lib.hid hq
  have HR := Lib.hid hr
  clear hq hr hu
  go_enter Tryz.func124, Tryz.ntmps124
  go_upto_region 7 with fail
  have hlen : (Lib.decDigits q).length ≤ 9 := by
    rw [Lib.decDigits_length]
    exact nDigits_le (by omega) (by have := HQ.out; omega)
  have hlen2 : ¬ (9223372036854775807 < (Lib.decDigits q).length + 1) := by omega
  have hlen3 : ¬ (9223372036854775806 < (Lib.decDigits q).length) := by omega
  have hlen4 : ¬ (9223372036854775807 ≤ (Lib.decDigits q).length) := by omega
  clear hlen
  have hfin : Hid ((⟨(Lib.decDigits q).toArray⟩ : ByteArray) ++ ⟨#[48 + UInt8.ofNat r]⟩ = ⟨(Lib.decDigits q ++ [UInt8.ofNat (48 + r)]).toArray⟩) := Lib.hid <| by
    rw [show (#[48 + UInt8.ofNat r] : Array UInt8) = [UInt8.ofNat (48 + r)].toArray from by simp, ByteArray.mk_append_mk]
  go_region_with (first | (go_at_call 124; (with_reducible refine (ih _).mono ?_); rintro e w1 ⟨rfl, hb⟩; obtain ⟨hc, hf⟩ := bf hb (w.heap.size) side_; have hs := hb.size; (try simp only [World.size_alloc, World.size_setCell, World.size_drew, World.heap_drewN] at hs); have hl : w.heap.size ≤ w1.heap.size := (by omega); obtain ⟨B, hBe, hBl, hc2, hf2⟩ := bfA hb; (try simp only [World.size_alloc, World.size_setCell, World.size_drew, World.heap_drewN] at hBe); have hB : Below w.heap.size w w1 := bstep (by exact below_) hb side_; clear hs hb))
  all_goals go_wp2
  all_goals go_ret
  all_goals (refine ⟨?_, by exact below_⟩ ; rw [← hfin.out] ; rfl)
theorem sdec_nat (u : Nat) (hb : u < 1000000000) (w : World) : Calls Tryz.prog 124 #[.int .i64 u] w fun e w' => e = .returned (.string ⟨(Lib.decDigits u).toArray⟩) ∧ Below w.heap.size w w' := by
  induction u using Nat.strongRecOn generalizing w with
  | _ u ih =>
    by_cases hu : u < 10
    · exact sdec_one u hu w
    · exact sdec_step u hu hb w fun w => ih (u / 10) (by omega) (by omega) w
set_option maxRecDepth 100000 in
set_option maxHeartbeats 8000000 in
theorem sdec_neg (u : Nat) (h0 : u ≠ 0) (hb : u < 1000000000) (w : World) : Calls Tryz.prog 124 #[.int .i64 (-(u : Int))] w fun e w' => e = .returned (.string ⟨(45 :: Lib.decDigits u).toArray⟩) ∧ Below w.heap.size w w' := by
  have h1 : ¬ (-(u : Int) < -9223372036854775807) := by omega
  have h2 : -(u : Int) < 0 := by omega
  have h3 : IntKind.i64.wrap (- -(u : Int)) = u := by rw [Int.neg_neg]; exact IntWalk.i64_in _ (by omega)
  have h3' : IntKind.i64.wrap (u : Int) = u := IntWalk.i64_in _ (by omega)
  have hlen : (Lib.decDigits u).length ≤ 9 := by
    rw [Lib.decDigits_length]
    exact nDigits_le (by omega) (by omega)
  have hlen2 : ¬ (9223372036854775807 < 1 + (Lib.decDigits u).length) := by omega
  have hlen3 : ¬ (9223372036854775806 < (Lib.decDigits u).length) := by omega
  have hfin : Hid ((⟨#[45]⟩ : ByteArray) ++ ⟨(Lib.decDigits u).toArray⟩ = ⟨(45 :: Lib.decDigits u).toArray⟩) := Lib.hid <| by
    rw [show (#[45] : Array UInt8) = [45].toArray from rfl, ByteArray.mk_append_mk]; rfl
  clear hlen
  have ih := sdec_nat u hb
  go_enter Tryz.func124, Tryz.ntmps124
  go_wp2_with (first | (go_at_call 124; (with_reducible refine (ih _).mono ?_); rintro e w1 ⟨rfl, hb⟩; obtain ⟨hc, hf⟩ := bf hb (w.heap.size) side_; have hs := hb.size; (try simp only [World.size_alloc, World.size_setCell, World.size_drew, World.heap_drewN] at hs); have hl : w.heap.size ≤ w1.heap.size := (by omega); obtain ⟨B, hBe, hBl, hc2, hf2⟩ := bfA hb; (try simp only [World.size_alloc, World.size_setCell, World.size_drew, World.heap_drewN] at hBe); have hB : Below w.heap.size w w1 := bstep (by exact below_) hb side_; clear hs hb))
  all_goals go_ret
  all_goals (refine ⟨?_, by exact below_⟩ ; rw [← hfin.out] ; rfl)
theorem sdec_any (n : Int) (hb : -1000000000 < n ∧ n < 1000000000) (w : World) : Calls Tryz.prog 124 #[.int .i64 n] w fun e w' => e = .returned (.string ⟨(Lib.itoa n).toArray⟩) ∧ Below w.heap.size w w' := by
  unfold Lib.itoa
  split
  · rename_i h
    obtain ⟨u, rfl⟩ : ∃ u : Nat, n = -(u : Int) := ⟨n.natAbs, by omega⟩
    have := sdec_neg u (by omega) (by omega) w
    simpa using this
  · obtain ⟨u, rfl⟩ : ∃ u : Nat, n = (u : Int) := ⟨n.natAbs, by omega⟩
    exact sdec_nat u (by omega) w
end Go.Proofs.YtkdggljioekkhaaGreatDoor
