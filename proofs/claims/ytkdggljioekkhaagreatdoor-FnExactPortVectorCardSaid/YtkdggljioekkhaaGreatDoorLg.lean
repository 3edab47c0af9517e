/-
  The walks of the helpers of the statements on lists of fractions: handed over, compared.
-/
import Derived.Test.YtkdggljioekkhaaGreatDoorLf
import Derived.Test.YtkdggljioekkhaaGreatDoorLa
import Derived.Deep.RegionHeld3
import Derived.Test.YtkdggljioekkhaaGreatDoorRows
namespace Go.Proofs.YtkdggljioekkhaaGreatDoor
set_option linter.unusedSimpArgs false
set_option linter.unusedVariables false
open Go.RowKit
def zfr : Fr := ⟨0, 0, 0⟩
theorem put_stepF {xs : List Fr} {n k : Nat} {s : Fr} (hn : xs.length = n) (hk : k < n) (hs : xs[k]? = some s) : (xs.take k ++ List.replicate (n - k) zfr).set k s = xs.take (k + 1) ++ List.replicate (n - (k + 1)) zfr := by
  have hl : (xs.take k).length = k := by rw [List.length_take]; omega
  rw [List.set_append, if_neg (by omega), hl, Nat.sub_self, show n - k = n - (k + 1) + 1 by omega, List.replicate_succ, List.set_cons_zero, List.take_add_one, hs]
  simp
theorem rowF_zero (n : Nat) : rowF (List.replicate n zfr) = (madeCells #[.int .i64 0, .int .i64 0, .int .i64 0] (n * 3)).toList := by
  have h1 : rowF (List.replicate n zfr) = List.replicate (n * 3) (.int .i64 0) := by
    rw [List.eq_replicate_iff]
    exact ⟨by rw [rowF_length, List.length_replicate], fun u hu => by
      simp only [rowF, List.mem_flatMap, List.mem_replicate, fracL, List.mem_cons, List.not_mem_nil, or_false] at hu
      obtain ⟨s, ⟨_, rfl⟩, rfl | rfl | rfl⟩ := hu <;> rfl⟩
  have h2 : (madeCells #[.int .i64 0, .int .i64 0, .int .i64 0] (n * 3)).toList = List.replicate (n * 3) (.int .i64 0) := by
    rw [List.eq_replicate_iff]
    refine ⟨by simp [madeCells], fun u hu => ?_⟩
    simp [madeCells] at hu
    obtain ⟨x, _, rfl⟩ := hu
    have hx : x % 3 < 3 := Nat.mod_lt _ (by omega)
    generalize x % 3 = y at hx ⊢
    match y, hx with
    | 0, _ => rfl
    | 1, _ => rfl
    | 2, _ => rfl
  rw [h1, h2]
set_option maxRecDepth 100000 in
set_option maxHeartbeats 1000000 in
theorem eqFrs_refl (A A' : Option Addr) (len cap cap' : Nat) (xs : List Fr) (w : World) (h : Frs A len cap xs w) (h' : Frs A' len cap' xs w) :
    Calls Tryz.prog 27 #[.slice A len cap, .slice A' len cap'] w fun e w' => e = .returned (.bool true) ∧ Below w.heap.size w w' := by
  have hl := h.2.1
  have hm := h.2.2.1
  go_enter Tryz.func27, Tryz.ntmps27
  go_wp2
  go_loopw [5] (fun i wr => ∃ k : Nat, k ≤ len ∧ i = .int .i64 k ∧ Below w.heap.size w wr) (fun i _ => len - (intOf i).toNat)
  case atStart => exact ⟨0, Nat.zero_le _, rfl, Below.refl _ _⟩
  case round =>
    obtain ⟨k, hk, rfl, hb⟩ := hrel
    have hz := hb.size
    by_cases hkl : k < len
    · obtain ⟨b1, o1, s, rfl, hlt1, hs1, hc1⟩ := h.at hb hkl
      obtain ⟨b2, o2, s2, rfl, hlt2, hs2, hc2⟩ := h'.at hb hkl
      obtain rfl : s = s2 := by rw [hs1] at hs2; exact Option.some.inj hs2
      obtain ⟨c0, c1, c2⟩ := hc1
      obtain ⟨d0, d1, d2⟩ := hc2
      have HS1 := Lib.hid hs1
      clear hs1 hs2
      go_wp2
      go_region_held3 (fun w' => w'.cell? ⟨b1, o1 + k * 3, none⟩ = some (.int .i64 s.re) ∧ w'.cell? ⟨b1, o1 + k * 3 + 1, none⟩ = some (.int .i64 s.im) ∧ w'.cell? ⟨b1, o1 + k * 3 + 2, none⟩ = some (.int .i64 s.den) ∧ w'.cell? ⟨b2, o2 + k * 3, none⟩ = some (.int .i64 s.re) ∧ w'.cell? ⟨b2, o2 + k * 3 + 1, none⟩ = some (.int .i64 s.im) ∧ w'.cell? ⟨b2, o2 + k * 3 + 2, none⟩ = some (.int .i64 s.den)) ((first | go_keep | (simp [go_sem, *]; done))) (first | (go_at_call 17; (with_reducible refine (eqFrac_refl s _).mono ?_); rintro e w1 ⟨rfl, hb⟩; obtain ⟨hc, hf⟩ := bf hb (w.heap.size) side_; have hs := hb.size; (try simp only [World.size_alloc, World.size_setCell, World.size_drew, World.heap_drewN] at hs); have hl : w.heap.size ≤ w1.heap.size := (by omega); have hB : Below w.heap.size w w1 := bstep (by exact below_) hb side_; clear hs hb))
      go_wp2
      go_roundw
      case rel => exact ⟨k + 1, by omega, by go_num, by exact below_⟩
      case measure => simp [intOf]; omega
    · go_wp2
      go_ret
      exact ⟨rfl, by exact below_⟩
theorem infoFr : (Tryz.prog.info? 26).map (fun i => (i.zero, i.size, i.bytes)) = some (some (.agg #[.int .i64 0, .int .i64 0, .int .i64 0]), 3, 24) := by kernel_rfl
end Go.Proofs.YtkdggljioekkhaaGreatDoor
