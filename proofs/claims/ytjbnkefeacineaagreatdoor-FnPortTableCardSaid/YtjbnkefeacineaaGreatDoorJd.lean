/-
  Texts of this claim, joined: Bw; Bx; By; Bz. Nothing is claimed here; the other texts of this claim use it.
-/
import Derived.Test.YtjbnkefeacineaaGreatDoorSp
import Derived.Test.YtjbnkefeacineaaGreatDoorBb
import Derived.Laws.DeepStrings4
import Derived.Laws.IdiomStrings
import Derived.Lib.ConvBytes
import Derived.WalkSpells
import Derived.Deep.CutRange
import Derived.Deep.RegionHeld3
import Derived.Test.YtjbnkefeacineaaGreatDoorPa
import Derived.Test.YtjbnkefeacineaaGreatDoorJa
namespace Go.Proofs.YtjbnkefeacineaaGreatDoor
set_option linter.unusedSimpArgs false
set_option linter.unusedVariables false
section
open Go.RowKit
attribute [local go_sem ↓] Go.wp_at_zero Go.wp_at_succ
theorem conv_one (c : UInt8) (W : World) (b : Nat) (h : W.cell? ⟨b, 0, none⟩ = some (.int .u8 (c.toNat : Int))) :
    (convert 22 9 (.slice (some ⟨b, 0, none⟩) 1 1)).run Tryz.prog W = .ok (.string ⟨#[c]⟩) W := by
  refine run_convert_bytes_back W 22 9 5 ⟨b, 0, none⟩ 1 [c] Tryz.underlying22 Tryz.underlying5 Tryz.underlying9 fun j hj => ?_
  obtain rfl : j = 0 := by simpa using hj
  have : (⟨b, 0, none⟩ : Addr).add 0 = ⟨b, 0, none⟩ := rfl
  rw [this, h]
  rfl
theorem dig_nat {u : Nat} (hu : u < 10) : ((UInt8.ofNat (48 + u)).toNat : Int) = 48 + (u : Int) := by
  rw [digit_toNat hu]; omega
set_option maxRecDepth 100000 in
set_option maxHeartbeats 4000000 in
theorem sdec_one (u : Nat) (hu : u < 10) (w : World) : Calls Tryz.prog 141 #[.int .i64 u] w fun e w' => e = .returned (.string ⟨(Lib.decDigits u).toArray⟩) ∧ Below w.heap.size w w' := by
  rw [Lib.decDigits_one hu]
  have h1 : ¬ ((u : Int) < -9223372036854775807) := by omega
  have h2 : ¬ ((u : Int) < 0) := by omega
  have h3 : (u : Int) < 10 := by omega
  have h4 : IntKind.i64.wrap (48 + (u : Int)) = 48 + u := IntWalk.i64_in _ (by omega)
  have hc := conv_one (UInt8.ofNat (48 + u)) (w.alloc (.cells #[.int .u8 (48 + (u : Int))] 5)) w.heap.size (by rw [dig_nat hu]; exact World.cell?_alloc_at _ _ _ _ rfl)
  go_enter Tryz.func141, Tryz.ntmps141
  go_wp2
  go_ret
  exact ⟨rfl, by exact below_⟩
set_option maxRecDepth 100000 in
set_option maxHeartbeats 8000000 in
theorem sdec_step (u : Nat) (hu : ¬ u < 10) (hb : u < 1000000000) (w : World) (ih : ∀ w, Calls Tryz.prog 141 #[.int .i64 ((u / 10 : Nat) : Int)] w fun e w' => e = .returned (.string ⟨(Lib.decDigits (u / 10)).toArray⟩) ∧ Below w.heap.size w w') :
    Calls Tryz.prog 141 #[.int .i64 u] w fun e w' => e = .returned (.string ⟨(Lib.decDigits u).toArray⟩) ∧ Below w.heap.size w w' := by
  rw [decDigits_rec u hu]
  have h1 : ¬ ((u : Int) < -9223372036854775807) := by omega
  have h2 : ¬ ((u : Int) < 0) := by omega
  have h3 : ¬ ((u : Int) < 10) := by omega
  obtain ⟨r, hr⟩ : ∃ r, u % 10 = r := ⟨_, rfl⟩
  obtain ⟨q, hq⟩ : ∃ q, u / 10 = q := ⟨_, rfl⟩
  rw [hr, hq]
  rw [hq] at ih
  have hr9 : r < 10 := by omega
  have e1 : IntKind.i64.wrap (Int.tdiv (u : Int) 10) = q := by
    rw [← hq, show Int.tdiv (u : Int) 10 = ((u / 10 : Nat) : Int) from rfl]
    exact IntWalk.i64_in _ (by omega)
  have e1' : IntKind.i64.wrap ((u : Int) / 10) = q := by
    rw [← hq, show (u : Int) / 10 = ((u / 10 : Nat) : Int) from rfl]
    exact IntWalk.i64_in _ (by omega)
  have e5 : IntKind.u8.wrap (48 + (r : Int)) = 48 + r := by
    rw [show IntKind.u8.wrap (48 + (r : Int)) = (48 + (r : Int)) % 256 from rfl]; omega
  have e2 : Int.tmod (u : Int) 10 = r := by rw [← hr]; rfl
  have e4 : IntKind.i64.wrap (48 + (r : Int)) = 48 + r := IntWalk.i64_in _ (by omega)
  have hcv := fun W b (h : W.cell? ⟨b, 0, none⟩ = some (.int .u8 (48 + (r : Int)))) => conv_one (UInt8.ofNat (48 + r)) W b (by rw [dig_nat hr9]; exact h)
  have HQ := Lib.hid hq
  have HR := Lib.hid hr
  clear hq hr hu
  go_enter Tryz.func141, Tryz.ntmps141
  go_upto_region 7 with fail
  have hlen : (Lib.decDigits q).length ≤ 9 := by
    rw [Lib.decDigits_length]
    exact nDigits_le (by omega) (by have := HQ.out; omega)
  have hlen2 : ¬ (9223372036854775807 < (Lib.decDigits q).length + 1) := by omega
  have hlen3 : ¬ (9223372036854775806 < (Lib.decDigits q).length) := by omega
  have hlen4 : ¬ (9223372036854775807 ≤ (Lib.decDigits q).length) := by omega
  clear hlen
  have hfin : Hid ((⟨(Lib.decDigits q).toArray⟩ : ByteArray) ++ ⟨#[48 + UInt8.ofNat r]⟩ = ⟨(Lib.decDigits q ++ [UInt8.ofNat (48 + r)]).toArray⟩) := Lib.hid <| by
    rw [show (#[48 + UInt8.ofNat r] : Array UInt8) = [UInt8.ofNat (48 + r)].toArray from by simp, ByteArray.mk_append_mk]
  go_region_with (first | (go_at_call 141; (with_reducible refine (ih _).mono ?_); rintro e w1 ⟨rfl, hb⟩; obtain ⟨hc, hf⟩ := bf hb (w.heap.size) side_; have hs := hb.size; (try simp only [World.size_alloc, World.size_setCell, World.size_drew, World.heap_drewN] at hs); have hl : w.heap.size ≤ w1.heap.size := (by omega); obtain ⟨B, hBe, hBl, hc2, hf2⟩ := bfA hb; (try simp only [World.size_alloc, World.size_setCell, World.size_drew, World.heap_drewN] at hBe); have hB : Below w.heap.size w w1 := bstep (by exact below_) hb side_; clear hs hb))
  all_goals go_wp2
  all_goals go_ret
  all_goals (refine ⟨?_, by exact below_⟩ ; rw [← hfin.out] ; rfl)
theorem sdec_nat (u : Nat) (hb : u < 1000000000) (w : World) : Calls Tryz.prog 141 #[.int .i64 u] w fun e w' => e = .returned (.string ⟨(Lib.decDigits u).toArray⟩) ∧ Below w.heap.size w w' := by
  induction u using Nat.strongRecOn generalizing w with
  | _ u ih =>
    by_cases hu : u < 10
    · exact sdec_one u hu w
    · exact sdec_step u hu hb w fun w => ih (u / 10) (by omega) (by omega) w
set_option maxRecDepth 100000 in
set_option maxHeartbeats 8000000 in
theorem sdec_neg (u : Nat) (h0 : u ≠ 0) (hb : u < 1000000000) (w : World) : Calls Tryz.prog 141 #[.int .i64 (-(u : Int))] w fun e w' => e = .returned (.string ⟨(45 :: Lib.decDigits u).toArray⟩) ∧ Below w.heap.size w w' := by
  have h1 : ¬ (-(u : Int) < -9223372036854775807) := by omega
  have h2 : -(u : Int) < 0 := by omega
  have h3 : IntKind.i64.wrap (- -(u : Int)) = u := by rw [Int.neg_neg]; exact IntWalk.i64_in _ (by omega)
  have h3' : IntKind.i64.wrap (u : Int) = u := IntWalk.i64_in _ (by omega)
  have hlen : (Lib.decDigits u).length ≤ 9 := by
    rw [Lib.decDigits_length]
    exact nDigits_le (by omega) (by omega)
  have hlen2 : ¬ (9223372036854775807 < 1 + (Lib.decDigits u).length) := by omega
  have hlen3 : ¬ (9223372036854775806 < (Lib.decDigits u).length) := by omega
  have hfin : Hid ((⟨#[45]⟩ : ByteArray) ++ ⟨(Lib.decDigits u).toArray⟩ = ⟨(45 :: Lib.decDigits u).toArray⟩) := Lib.hid <| by
    rw [show (#[45] : Array UInt8) = [45].toArray from rfl, ByteArray.mk_append_mk]; rfl
  clear hlen
  have ih := sdec_nat u hb
  go_enter Tryz.func141, Tryz.ntmps141
  go_wp2_with (first | (go_at_call 141; (with_reducible refine (ih _).mono ?_); rintro e w1 ⟨rfl, hb⟩; obtain ⟨hc, hf⟩ := bf hb (w.heap.size) side_; have hs := hb.size; (try simp only [World.size_alloc, World.size_setCell, World.size_drew, World.heap_drewN] at hs); have hl : w.heap.size ≤ w1.heap.size := (by omega); obtain ⟨B, hBe, hBl, hc2, hf2⟩ := bfA hb; (try simp only [World.size_alloc, World.size_setCell, World.size_drew, World.heap_drewN] at hBe); have hB : Below w.heap.size w w1 := bstep (by exact below_) hb side_; clear hs hb))
  all_goals go_ret
  all_goals (refine ⟨?_, by exact below_⟩ ; rw [← hfin.out] ; rfl)
theorem sdec_any (n : Int) (hb : -1000000000 < n ∧ n < 1000000000) (w : World) : Calls Tryz.prog 141 #[.int .i64 n] w fun e w' => e = .returned (.string ⟨(Lib.itoa n).toArray⟩) ∧ Below w.heap.size w w' := by
  unfold Lib.itoa
  split
  · rename_i h
    obtain ⟨u, rfl⟩ : ∃ u : Nat, n = -(u : Int) := ⟨n.natAbs, by omega⟩
    have := sdec_neg u (by omega) (by omega) w
    simpa using this
  · obtain ⟨u, rfl⟩ : ∃ u : Nat, n = (u : Int) := ⟨n.natAbs, by omega⟩
    exact sdec_nat u (by omega) w
end
section
open Go.RowKit
attribute [local go_sem ↓] Go.wp_at_zero Go.wp_at_succ
/-- What the reading of a number knows at byte k. -/
def St (l : List UInt8) (k n : Nat) (sg : Int) : Prop :=
  n < 10 ^ k ∧ ((k = 0 ∧ n = 0 ∧ sg = 1) ∨ (1 ≤ k ∧ (sg = 1 ∨ sg = -1) ∧ numSL l = (Lib.decFrom n (l.drop k)).map fun m => sg * (m : Int)))
theorem St.start (l : List UInt8) : St l 0 0 1 := ⟨by decide, .inl ⟨rfl, rfl, rfl⟩⟩
theorem numSL_dig {c : UInt8} {r : List UInt8} (h : ¬ c = 45) : numSL (c :: r) = (Lib.decFrom 0 (c :: r)).map fun n => (n : Int) := by
  rw [numSL, if_neg h]
theorem St.minus {l : List UInt8} {n : Nat} {sg : Int} (h : St l 0 n sg) (h0 : l[0]? = some 45) : St l 1 n (-1) := by
  obtain ⟨_, ⟨_, rfl, _⟩ | ⟨h1, _⟩⟩ := h
  · refine ⟨by decide, .inr ⟨Nat.le_refl _, .inr rfl, ?_⟩⟩
    cases l with
    | nil => cases h0
    | cons c r =>
      obtain rfl : c = 45 := by simpa using h0
      rw [numSL, if_pos rfl]
      simp only [List.drop_succ_cons, List.drop_zero]
      cases Lib.decFrom 0 r with
      | none => rfl
      | some m => simp
  · omega
theorem St.full {l : List UInt8} {k n : Nat} {sg : Int} {c : UInt8} (h : St l k n sg) (hc : l[k]? = some c) (hm : ¬ (k = 0 ∧ c = 45)) :
    (sg = 1 ∨ sg = -1) ∧ numSL l = (Lib.decFrom n (l.drop k)).map fun m => sg * (m : Int) := by
  obtain ⟨_, ⟨rfl, rfl, rfl⟩ | ⟨h1, h2, h3⟩⟩ := h
  · refine ⟨.inl rfl, ?_⟩
    cases l with
    | nil => cases hc
    | cons d r =>
      obtain rfl : d = c := by simpa using hc
      rw [numSL_dig (fun e => hm ⟨rfl, e⟩)]
      simp only [List.drop_zero, Int.one_mul]
  · exact ⟨h2, h3⟩
theorem drop_at {l : List UInt8} {k : Nat} {c : UInt8} (hc : l[k]? = some c) : l.drop k = c :: l.drop (k + 1) := by
  obtain ⟨hk, rfl⟩ := List.getElem?_eq_some_iff.1 hc
  exact List.drop_eq_getElem_cons hk
theorem St.digit {l : List UInt8} {k n : Nat} {sg : Int} {c : UInt8} (h : St l k n sg) (hc : l[k]? = some c) (hd : 48 ≤ c.toNat ∧ c.toNat ≤ 57) : St l (k + 1) (10 * n + (c.toNat - 48)) sg := by
  have h9 := h.1
  obtain ⟨h2, h3⟩ := h.full hc (by rintro ⟨_, rfl⟩; revert hd; decide)
  refine ⟨by rw [Nat.pow_succ]; omega, .inr ⟨by omega, h2, ?_⟩⟩
  rw [h3, drop_at hc, Lib.decFrom, Lib.digitVal, if_pos hd, Nat.mul_comm]
theorem St.none {l : List UInt8} {k n : Nat} {sg : Int} {c : UInt8} (h : St l k n sg) (hc : l[k]? = some c) (hm : ¬ (k = 0 ∧ c = 45)) (hd : ¬ (48 ≤ c.toNat ∧ c.toNat ≤ 57)) : numS l = none := by
  have h3 := (h.full hc hm).2
  rw [drop_at hc, Lib.decFrom, Lib.digitVal, if_neg hd] at h3
  unfold numS
  rw [h3]
  split <;> rfl
theorem St.last {l : List UInt8} {n : Nat} {sg : Int} (h : St l l.length n sg) (h1 : 1 ≤ l.length) : (sg = 1 ∨ sg = -1) ∧ numSL l = some (sg * (n : Int)) := by
  obtain ⟨_, ⟨h0, _⟩ | ⟨_, h2, h3⟩⟩ := h
  · omega
  · exact ⟨h2, by rw [h3, List.drop_length, Lib.decFrom]; rfl⟩
theorem numS_size {l : List UInt8} (h : ¬ (1 ≤ l.length ∧ l.length ≤ 4)) : numS l = none := by
  unfold numS
  rw [if_neg (by simpa using h)]
theorem numS_end {l : List UInt8} {v : Int} (h1 : 1 ≤ l.length) (h4 : l.length ≤ 4) (h : numSL l = some v) : numS l = if Lib.itoa v = l then some v else none := by
  unfold numS
  rw [if_pos (by simp; omega), h, Option.bind_some]
theorem idx_l (l : List UInt8) (k : Nat) (c : UInt8) (hc : l[k]? = some c) (W : World) : (Instr.index 9 (.string ⟨l.toArray⟩) (.int .i64 (k : Int))).run Tryz.prog W = .ok (.int .u8 (c.toNat : Int)) W := by
  obtain ⟨hk, rfl⟩ := List.getElem?_eq_some_iff.1 hc
  rw [run_index_string W _ _ _ _ Tryz.underlying9, dif_pos ⟨by omega, by rw [Lib.size_eq]; simpa using hk⟩]
  rfl
/-- What l7Number answers. -/
def NumR (l : List UInt8) (w : World) (e : Ending) (w' : World) : Prop :=
  ∃ n ok, e = .returned (.tuple #[.int .i64 n, .bool ok]) ∧ (ok = true → numS l = some n) ∧ (ok = false → numS l = none) ∧ Below w.heap.size w w'
set_option maxRecDepth 100000 in
set_option maxHeartbeats 8000000 in
theorem snum_any (l : List UInt8) (hl : l.length ≤ 1048576) (w : World) :
    Calls Tryz.prog 142 #[.string ⟨l.toArray⟩] w fun e w' => NumR l w e w' := by
  have hsz : (⟨l.toArray⟩ : ByteArray).size = l.length := by rw [Lib.size_eq]
  by_cases h14 : 1 ≤ l.length ∧ l.length ≤ 4
  · have hin : inB l.length 1 4 = true := by rw [inB_iff]; omega
    have H14 := Lib.hid h14
    clear h14
    go_enter Tryz.func142, Tryz.ntmps142
    go_upto_region 6 with (first | (go_at_call 70; refine (l6in_t _ _ _ _ (by assumption)).mono ?_; rintro e w1 ⟨rfl, rfl⟩))
    rename World => w
    go_loopw [4, 5, 6] (fun a b i wr => ∃ (k n : Nat) (sg : Int), k ≤ l.length ∧ a = .int .i64 n ∧ b = .int .i64 sg ∧ i = .int .i64 k ∧ Hid (St l k n sg) ∧ Below w.heap.size w wr) (fun _ _ i _ => l.length - (intOf i).toNat)
    case atStart => exact ⟨0, 0, 1, Nat.zero_le _, rfl, rfl, rfl, Lib.hid (St.start l), Below.refl _ _⟩
    case round =>
      obtain ⟨k, n, sg, hk, rfl, rfl, rfl, hst, hB⟩ := hrel
      have hk4 : k ≤ 4 := by have := H14.out; omega
      have hkw : IntKind.i64.wrap ((k : Int) + 1) = (k : Int) + 1 := IntWalk.i64_in _ (by omega)
      by_cases hkl : k < l.length
      · obtain ⟨c, hc⟩ : ∃ c, l[k]? = some c := ⟨_, List.getElem?_eq_getElem hkl⟩
        have hix := idx_l l k c hc
        have HC := Lib.hid hc
        have hki : (k : Int) < l.length := by omega
        clear hc
        by_cases hA : k = 0 ∧ c = 45
        · obtain ⟨rfl, rfl⟩ := hA
          have hi0 : ∀ W : World, (Instr.index 9 (.string ⟨l.toArray⟩) (.int .i64 0)).run Tryz.prog W = .ok (.int .u8 45) W := hix
          have H1 := Lib.hid (hst.out.minus HC.out)
          clear hix hkw hin
          go_wp2
          go_roundw
          case rel => exact ⟨1, n, -1, by omega, rfl, rfl, rfl, H1, hB⟩
          case measure => simp [intOf]; omega
        · have hn : n < 1000 := by
            have h1 := hst.out.1
            have h2 : 10 ^ k ≤ 10 ^ 3 := Nat.pow_le_pow_right (by decide) (by have := H14.out; omega)
            omega
          obtain ⟨m, hm⟩ : ∃ m, c.toNat = m := ⟨_, rfl⟩
          have h45 : k = 0 → ¬ (m : Int) = 45 := fun h0 h => hA ⟨h0, by rw [← UInt8.toNat_inj, hm, show (45 : UInt8).toNat = 45 from rfl]; omega⟩
          rw [hm] at hix
          have HA := Lib.hid hA
          have HM := Lib.hid hm
          have hm2 : m < 256 := by rw [← hm]; exact c.toNat_lt
          clear hA hm hin
          by_cases hd : 48 ≤ m ∧ m ≤ 57
          · have hd1 : 48 ≤ (m : Int) := by omega
            have hd2 : (m : Int) ≤ 57 := by omega
            have e1 : IntKind.i64.wrap (10 * (n : Int)) = 10 * n := IntWalk.i64_in _ (by omega)
            have e2 : IntKind.u8.wrap ((m : Int) - 48) = (m : Int) - 48 := by
              rw [show IntKind.u8.wrap ((m : Int) - 48) = ((m : Int) - 48) % 256 from rfl]; omega
            have e3 : IntKind.i64.wrap ((m : Int) - 48) = (m : Int) - 48 := IntWalk.i64_in _ (by omega)
            have e4 : IntKind.i64.wrap (10 * (n : Int) + ((m : Int) - 48)) = ((10 * n + (m - 48) : Nat) : Int) := by rw [IntWalk.i64_in _ (by omega)]; omega
            have H1 := Lib.hid (hst.out.digit HC.out (by rw [HM.out]; exact hd))
            rw [HM.out] at H1
            clear hd
            by_cases h0 : k = 0
            · subst h0
              have h45' := h45 rfl
              have hi0 : ∀ W : World, (Instr.index 9 (.string ⟨l.toArray⟩) (.int .i64 0)).run Tryz.prog W = .ok (.int .u8 m) W := hix
              clear hix h45
              go_wp2
              go_roundw
              case rel => exact ⟨1, 10 * n + (m - 48), sg, by omega, by go_num, rfl, rfl, H1, hB⟩
              case measure => simp [intOf]; omega
            · have h0' : ¬ (k : Int) = 0 := by omega
              clear h45
              go_wp2
              go_roundw
              case rel => exact ⟨k + 1, 10 * n + (m - 48), sg, by omega, by go_num, rfl, by go_num, H1, hB⟩
              case measure => simp [intOf]; omega
          · have hno := Lib.hid (hst.out.none HC.out HA.out (by rw [HM.out]; exact hd))
            have hd' : ¬ (48 ≤ (m : Int) ∧ (m : Int) ≤ 57) := by omega
            clear hd
            by_cases h0 : k = 0
            · subst h0
              have h45' := h45 rfl
              have hi0 : ∀ W : World, (Instr.index 9 (.string ⟨l.toArray⟩) (.int .i64 0)).run Tryz.prog W = .ok (.int .u8 m) W := hix
              clear hix h45
              by_cases h48 : 48 ≤ (m : Int)
              · have h57 : ¬ (m : Int) ≤ 57 := fun h => hd' ⟨h48, h⟩
                clear hd'
                go_wp2
                go_ret2
                exact ⟨_, false, rfl, (by intro h; cases h), fun _ => hno.out, by exact below_⟩
              · clear hd'
                go_wp2
                go_ret2
                exact ⟨_, false, rfl, (by intro h; cases h), fun _ => hno.out, by exact below_⟩
            · have h0' : ¬ (k : Int) = 0 := by omega
              clear h45
              by_cases h48 : 48 ≤ (m : Int)
              · have h57 : ¬ (m : Int) ≤ 57 := fun h => hd' ⟨h48, h⟩
                clear hd'
                go_wp2
                go_ret2
                exact ⟨_, false, rfl, (by intro h; cases h), fun _ => hno.out, by exact below_⟩
              · clear hd'
                go_wp2
                go_ret2
                exact ⟨_, false, rfl, (by intro h; cases h), fun _ => hno.out, by exact below_⟩
      · obtain rfl : k = l.length := by omega
        obtain ⟨h1, h2⟩ := hst.out.last H14.out.1
        have hn : n < 10000 := by
          have h1 := hst.out.1
          have h2 : 10 ^ l.length ≤ 10 ^ 4 := Nat.pow_le_pow_right (by decide) H14.out.2
          omega
        obtain ⟨v, hv⟩ : ∃ v, sg * (n : Int) = v := ⟨_, rfl⟩
        have hvb : -1000000000 < v ∧ v < 1000000000 := by rw [← hv]; rcases h1 with rfl | rfl <;> omega
        have e1 : wrap64 (sg * (n : Int)) = v := by rw [← hv]; unfold wrap64; rcases h1 with rfl | rfl <;> omega
        rw [hv] at h2
        have hend := Lib.hid (numS_end H14.out.1 H14.out.2 h2)
        have HV := Lib.hid hv
        have HVB := Lib.hid hvb
        clear h1 h2 hv hvb
        have hzw := hB.size
        go_wp2_with (first | (go_at_call 141; (with_reducible refine (sdec_any v HVB.out _).mono ?_); rintro e w1 ⟨rfl, hb⟩; obtain ⟨hc, hf⟩ := bf hb (w.heap.size) side_; have hs := hb.size; (try simp only [World.size_alloc, World.size_setCell, World.size_drew, World.heap_drewN] at hs); have hl : w.heap.size ≤ w1.heap.size := (by omega); obtain ⟨B, hBe, hBl, hc2, hf2⟩ := bfA hb; (try simp only [World.size_alloc, World.size_setCell, World.size_drew, World.heap_drewN] at hBe); have hB : Below w.heap.size w w1 := bstep (by exact below_) hb side_; clear hs hb))
        go_ret2
        refine ⟨v, Lib.itoa v == l, rfl, fun h => ?_, fun h => ?_, by exact below_⟩
        · rw [hend.out, if_pos (by simpa using h)]
        · rw [hend.out, if_neg (by simpa using h)]
  · have hin : inB l.length 1 4 = false := by rw [← Bool.not_eq_true, inB_iff]; omega
    have hno := Lib.hid (numS_size h14)
    clear h14
    go_enter Tryz.func142, Tryz.ntmps142
    go_wp2_with (first | (go_at_call 70; refine (l6in_f _ _ _ _ (by assumption)).mono ?_; rintro e w1 ⟨rfl, rfl⟩))
    go_ret2
    exact ⟨_, false, rfl, (by intro h; cases h), fun _ => hno.out, by exact below_⟩
end
section
open Go.RowKit
attribute [local go_sem ↓] Go.wp_at_zero Go.wp_at_succ
theorem cutL_one {c : UInt8} : ∀ {x : List UInt8}, (∀ b ∈ x, b ≠ c) → cutL c x = [x]
  | [], _ => rfl
  | b :: r, h => cutL_cons (h b (List.mem_cons_self ..)) (cutL_one fun d hd => h d (List.mem_cons_of_mem _ hd))
theorem cutL_at {c : UInt8} {r : List UInt8} : ∀ {x : List UInt8}, (∀ b ∈ x, b ≠ c) → cutL c (x ++ c :: r) = x :: cutL c r
  | [], _ => by rw [List.nil_append, cutL, if_pos rfl]
  | b :: y, h => by
    rw [List.cons_append]
    exact cutL_cons (h b (List.mem_cons_self ..)) (cutL_at fun d hd => h d (List.mem_cons_of_mem _ hd))
/-- What the cutting of l at c knows at place i: the words ps lie behind it, the next begins at f. -/
def Ct (l : List UInt8) (c : UInt8) (i f : Nat) (ps : List (List UInt8)) : Prop :=
  ps.length ≤ f ∧ ((i ≤ l.length ∧ f ≤ i ∧ cutL c l = ps ++ cutL c (l.drop f) ∧ ∀ b ∈ l.extract f i, b ≠ c) ∨ (i = l.length + 1 ∧ cutL c l = ps))
theorem Ct.start (l : List UInt8) (c : UInt8) : Ct l c 0 0 [] := ⟨Nat.le_refl _, .inl ⟨Nat.zero_le _, Nat.le_refl _, rfl, by simp⟩⟩
theorem ext_split {l : List UInt8} {f i : Nat} {b : UInt8} (hf : f ≤ i) (hb : l[i]? = some b) : l.drop f = l.extract f i ++ b :: l.drop (i + 1) := by
  obtain ⟨hi, rfl⟩ := List.getElem?_eq_some_iff.1 hb
  have h1 : l.drop f = (l.drop f).take (i - f) ++ (l.drop f).drop (i - f) := (List.take_append_drop _ _).symm
  rw [List.drop_drop, show f + (i - f) = i from by omega, List.drop_eq_getElem_cons hi] at h1
  rw [List.extract_eq_take_drop]
  exact h1
theorem Ct.step {l : List UInt8} {c b : UInt8} {i f : Nat} {ps : List (List UInt8)} (h : Ct l c i f ps) (hb : l[i]? = some b) (hne : b ≠ c) : Ct l c (i + 1) f ps := by
  have hi := (List.getElem?_eq_some_iff.1 hb).1
  obtain ⟨h0, ⟨h1, h2, h3, h4⟩ | ⟨h1, _⟩⟩ := h
  · refine ⟨h0, .inl ⟨by omega, by omega, h3, fun d hd => ?_⟩⟩
    rw [List.extract_eq_take_drop] at hd h4
    rw [show i + 1 - f = (i - f) + 1 from by omega, List.take_add_one, List.mem_append] at hd
    rcases hd with hd | hd
    · exact h4 d hd
    · rw [List.getElem?_drop, show f + (i - f) = i from by omega, hb] at hd
      simp at hd
      exact hd ▸ hne
  · omega
theorem Ct.cut {l : List UInt8} {c : UInt8} {i f : Nat} {ps : List (List UInt8)} (h : Ct l c i f ps) (hb : l[i]? = some c) : Ct l c (i + 1) (i + 1) (ps ++ [l.extract f i]) := by
  have hi := (List.getElem?_eq_some_iff.1 hb).1
  obtain ⟨h0, ⟨h1, h2, h3, h4⟩ | ⟨h1, _⟩⟩ := h
  · refine ⟨by simp; omega, .inl ⟨by omega, Nat.le_refl _, ?_, by simp⟩⟩
    rw [h3, ext_split h2 hb, cutL_at h4, List.append_assoc, List.singleton_append]
  · omega
theorem Ct.last {l : List UInt8} {c : UInt8} {f : Nat} {ps : List (List UInt8)} (h : Ct l c l.length f ps) : Ct l c (l.length + 1) (l.length + 1) (ps ++ [l.extract f l.length]) := by
  obtain ⟨h0, ⟨h1, h2, h3, h4⟩ | ⟨h1, _⟩⟩ := h
  · refine ⟨by simp; omega, .inr ⟨rfl, ?_⟩⟩
    have he : l.drop f = l.extract f l.length := by rw [List.extract_eq_take_drop, List.take_of_length_le (by simp)]
    rw [h3, he, cutL_one h4]
  · omega
theorem Ct.done {l : List UInt8} {c : UInt8} {i f : Nat} {ps : List (List UInt8)} (h : Ct l c i f ps) (hi : ¬ i ≤ l.length) : cutL c l = ps := by
  obtain ⟨_, ⟨h1, _⟩ | ⟨_, h2⟩⟩ := h
  · omega
  · exact h2
theorem Ct.from_le {l : List UInt8} {c : UInt8} {i f : Nat} {ps : List (List UInt8)} (h : Ct l c i f ps) (hi : i ≤ l.length) : f ≤ i ∧ ps.length ≤ f := by
  obtain ⟨h0, ⟨_, h2, _⟩ | ⟨h1, _⟩⟩ := h
  · exact ⟨h2, h0⟩
  · omega
theorem ext_l (l : List UInt8) (f i : Nat) : (⟨l.toArray⟩ : ByteArray).extract f i = ⟨(l.extract f i).toArray⟩ := by
  apply ByteArray.ext
  rw [ByteArray.data_extract]
  simp
/-- What the loop of l7Cut keeps. -/
structure CW (w : World) (l : List UInt8) (c : UInt8) (v : Value) (i f : Nat) (ps : List (List UInt8)) (W : World) : Prop where
  B : Below w.heap.size w W
  o : OwT w.heap.size v ps W
  t : Ct l c i f ps
section
variable {w W W' : World} {l : List UInt8} {c : UInt8} {v v' : Value} {i f i' f' : Nat} {ps ps' : List (List UInt8)}
theorem CW.below (h : CW w l c v i f ps W) (hb : Below W.heap.size W W') : CW w l c v i f ps W' := ⟨bstep h.B hb h.B.size, h.o.below hb, h.t⟩
theorem CW.grown (h : CW w l c v i f ps W) (hg : W.grownBy W' v.ownBlock) (ho : OwT w.heap.size v' ps' W') (ht : Ct l c i' f' ps') : CW w l c v' i' f' ps' W' :=
  ⟨Below.grown h.B hg h.B.size (fun k e => (h.o.lt k e).1), ho, ht⟩
theorem CW.next (h : CW w l c v i f ps W) (ht : Ct l c i' f' ps) : CW w l c v i' f' ps W := ⟨h.B, h.o, ht⟩
end
theorem OwT.slice {base : Nat} {v : Value} {ts : List (List UInt8)} {w : World} (h : OwT base v ts w) : ∃ A cap, v = .slice A ts.length cap := by
  rcases Nat.eq_zero_or_pos ts.length with h0 | h0
  · rcases h with ⟨_, h1 | ⟨b, cap, xs, h1, _⟩⟩
    · exact ⟨_, _, by rw [h0]; exact h1.1⟩
    · exact ⟨_, _, h1⟩
  · obtain ⟨g, cap, h1, _⟩ := h.at h0
    exact ⟨_, _, h1⟩
set_option maxRecDepth 100000 in
set_option maxHeartbeats 8000000 in
theorem scut_any (l : List UInt8) (c : UInt8) (hl : l.length ≤ 1048576) (w : World) :
    Calls Tryz.prog 125 #[.string ⟨l.toArray⟩, .int .u8 (c.toNat : Int)] w fun e w' => ∃ v, e = .returned v ∧ OwT w.heap.size v (cutL c l) w' ∧ Below w.heap.size w w' := by
  have hsz : (⟨l.toArray⟩ : ByteArray).size = l.length := by rw [Lib.size_eq]
  have hm := OwT.made w w.heap.size (Nat.le_refl _)
  go_enter Tryz.func125, Tryz.ntmps125
  go_upto_region 4 with fail
  have hC0 : CW w l c (.slice (some ⟨w.heap.size, 0, none⟩) 0 0) 0 0 [] (w.alloc (.cells #[] 9)) := ⟨by exact below_, hm, Ct.start l c⟩
  clear hm
  go_loopw [5, 6, 7] (fun v fv iv wr => ∃ (i f : Nat) (ps : List (List UInt8)), i ≤ l.length + 1 ∧ iv = .int .i64 i ∧ fv = .int .i64 f ∧ CW w l c v i f ps wr) (fun _ _ iv _ => l.length + 1 - (intOf iv).toNat)
  case atStart => exact ⟨0, 0, [], Nat.zero_le _, rfl, rfl, hC0⟩
  case round =>
    clear hC0
    obtain ⟨i, f, ps, hi, rfl, rfl, hC⟩ := hrel
    obtain ⟨A, cap, hv0⟩ := hC.o.slice
    subst hv0
    have hzw := hC.B.size
    have hiw : IntKind.i64.wrap ((i : Int) + 1) = (i : Int) + 1 := IntWalk.i64_in _ (by omega)
    by_cases hil : i ≤ l.length
    · obtain ⟨hfi, hpf⟩ := hC.t.from_le hil
      have hlen : ps.length + 1 < 4000000 := by omega
      have hfi' : (f : Int) ≤ i := by omega
      have hil' : (i : Int) ≤ l.length := by omega
      by_cases hie : i = l.length
      · subst hie
        have hC2 := hC.below ((Below.refl _ _).alloc (Nat.le_refl _) (.cells #[.string ((⟨l.toArray⟩ : ByteArray).extract f l.length)] 9))
        have hzw2 := hC2.B.size
        have HT := Lib.hid hC.t.last
        clear hC
        go_wp2_with (at_builtin; refine wpList_appT rfl (.tmp 26) (.tmp 31) rfl w.heap.size (.slice A ps.length cap) ps (wr.alloc (.cells #[.string ((⟨l.toArray⟩ : ByteArray).extract f l.length)] 9)) (by rfl) hC2.o wr.heap.size 1 (l.extract f l.length) ((⟨l.toArray⟩ : ByteArray).extract f l.length) (by rfl) (World.cell?_alloc_at _ _ _ _ rfl) (ext_l l f l.length) hlen hzw2 ?_; intro v2 w3 hO3 hg3; refine Hid.out ?_)
        refine Lib.hid ?_
        have hC3 := hC2.grown hg3 hO3 HT.out
        clear hO3 hg3 hC2
        go_wp2
        go_roundw
        case rel => exact ⟨l.length + 1, l.length + 1, ps ++ [l.extract f l.length], Nat.le_refl _, by go_num, by go_num, hC3⟩
        case measure => simp [intOf] <;> omega
      · obtain ⟨b, hb⟩ : ∃ b, l[i]? = some b := ⟨_, List.getElem?_eq_getElem (by omega)⟩
        have hix := idx_l l i b hb
        have hie' : ((i : Int) == (l.length : Int)) = false := by rw [beq_eq_false_iff_ne]; omega
        have HB := Lib.hid hb
        clear hb
        by_cases hbc : b = c
        · subst hbc
          have hC2 := hC.below ((Below.refl _ _).alloc (Nat.le_refl _) (.cells #[.string ((⟨l.toArray⟩ : ByteArray).extract f i)] 9))
          have hzw2 := hC2.B.size
          have HT := Lib.hid (hC.t.cut HB.out)
          clear hC
          go_wp2_with (at_builtin; refine wpList_appT rfl (.tmp 26) (.tmp 31) rfl w.heap.size (.slice A ps.length cap) ps (wr.alloc (.cells #[.string ((⟨l.toArray⟩ : ByteArray).extract f i)] 9)) (by rfl) hC2.o wr.heap.size 1 (l.extract f i) ((⟨l.toArray⟩ : ByteArray).extract f i) (by rfl) (World.cell?_alloc_at _ _ _ _ rfl) (ext_l l f i) hlen hzw2 ?_; intro v2 w3 hO3 hg3; refine Hid.out ?_)
          refine Lib.hid ?_
          have hC3 := hC2.grown hg3 hO3 HT.out
          clear hO3 hg3 hC2
          go_wp2
          go_roundw
          case rel => exact ⟨i + 1, i + 1, ps ++ [l.extract f i], by omega, by go_num, by go_num, hC3⟩
          case measure => simp [intOf] <;> omega
        · have hbc' : ((b.toNat : Int) == (c.toNat : Int)) = false := by rw [beq_eq_false_iff_ne]; exact fun h => hbc (UInt8.toNat_inj.1 (by omega))
          have hC3 := hC.next (hC.t.step HB.out hbc)
          clear hC hbc
          go_wp2
          go_roundw
          case rel => exact ⟨i + 1, f, ps, by omega, by go_num, rfl, hC3⟩
          case measure => simp [intOf] <;> omega
    · have hd := Lib.hid (hC.t.done hil)
      have hil' : ¬ (i : Int) ≤ l.length := by omega
      go_wp2
      go_ret
      exact ⟨_, rfl, by rw [hd.out]; exact hC.o, hC.B⟩
end
section
open Go.RowKit
attribute [local go_sem ↓] Go.wp_at_zero Go.wp_at_succ
/-- 'append(v, n)', and where the new row lies. -/
theorem wpList_appJ {ops : Array Oper} {rest : List Oper} {o : Oper} {a : Act} {Q : Exit → Act → World → Prop} (hgd : o.guard = none) (s x : Operand) (ho : o.op = .call { callee := .builtin .append, args := #[s, x], argTypes := #[88, 88] })
    (base : Nat) (v : Value) (ns : List Int) (W : World) (hs : a.eval s = v) (hO : OwI base v ns W) (gb c : Nat) (n : Int) (hx : a.eval x = .slice (some ⟨gb, 0, none⟩) 1 c) (hc : W.cell? ⟨gb, 0, none⟩ = some (.int .i64 n)) (hlen : ns.length + 1 < 4000000) (hb : base ≤ W.heap.size)
    (h : ∀ v' w', OwI base v' (ns ++ [n]) w' → W.grownBy w' v.ownBlock → (v'.ownBlock = v.ownBlock ∨ v'.ownBlock = some W.heap.size) → wpList Tryz.prog ops Q rest (a.put o.dst v') w') : wpList Tryz.prog ops Q (o :: rest) a W :=
  wpList_plain hgd fun _ hK => wp_app1 88 3 _ 1 8 Tryz.underlying88 infoI rfl (by decide) s x ho base v ns.length _ W hs hO gb c hx [.int .i64 n] rfl
    (fun j u hj => by
      match j, hj with
      | 0, hj => simp at hj; subst hj; exact hc) (fun u hu => by simp only [List.mem_singleton] at hu; subst hu; rfl) hlen (by decide) hb
    fun v' w' h2 h3 h4 => hK _ _ (h v' w' (by unfold OwI; rw [List.length_append, List.map_append]; exact h2) h3 h4)
/-- The cells of the reference's piece. -/
def psc (k : Int) (v : Value) : Array Value := #[.int .u8 k, v]
theorem blk_ps {W : World} {b : Nat} {k : Int} {v : Value} {ty : TypeId} (h : Blk W b (psc k v) ty) : (W.cell? ⟨b, 0, none⟩ = some (.int .u8 k) ∧ W.cell? ⟨b, 1, none⟩ = some v) ∧ W.frozen? ⟨b, 0, none⟩ = false ∧ W.frozen? ⟨b, 1, none⟩ = false := by
  refine ⟨⟨?_, ?_⟩, ?_, ?_⟩ <;> simp [World.cell?, World.frozen?, h, psc]
theorem blk_sset1 {W : World} {b : Nat} {k : Int} {v : Value} {ty : TypeId} (h : Blk W b (psc k v) ty) (u : Value) : Blk (W.setCell ⟨b, 1, none⟩ u) b (psc k u) ty := by
  simp [Blk, World.setCell, Array.getElem?_modify, h, psc]
/-- What the loop over the words of a piece keeps. -/
structure RS (w : World) (c : UInt8) (gb : Nat) (ws : List (List UInt8)) (v : Value) (ns : List Int) (W : World) : Prop where
  B : Below w.heap.size w W
  r : Blk W w.heap.size (psc 0 (.slice none 0 0)) 112
  p : Blk W (w.heap.size + 2) (psc c.toNat v) 112
  n : OwI (w.heap.size + 1) v ns W
  f : ∀ k, v.ownBlock = some k → k ≠ w.heap.size + 2 ∧ k ≠ gb
  g : w.heap.size + 2 < gb ∧ gb < W.heap.size
  t : ∀ (k : Nat) l, ws[k]? = some l → W.cell? ⟨gb, k, none⟩ = some (.string ⟨l.toArray⟩)
section
variable {w W W' : World} {c : UInt8} {gb : Nat} {ws : List (List UInt8)} {v : Value} {ns : List Int}
theorem RS.below (h : RS w c gb ws v ns W) (hb : Below W.heap.size W W') : RS w c gb ws v ns W' :=
  ⟨bstep h.B hb h.B.size, (hb.block _ (blk_lt h.r)).trans h.r, (hb.block _ (blk_lt h.p)).trans h.p, h.n.below hb, h.f, ⟨h.g.1, Nat.lt_of_lt_of_le h.g.2 hb.size⟩, fun k l hk => (hb.cell (p := ⟨gb, k, none⟩) h.g.2).trans (h.t k l hk)⟩
theorem RS.grown (h : RS w c gb ws v ns W) (hg : W.grownBy W' v.ownBlock) {v' : Value} {ns' : List Int} (hn : OwI (w.heap.size + 1) v' ns' W') (hv : v'.ownBlock = v.ownBlock ∨ v'.ownBlock = some W.heap.size) : RS w c gb ws v' ns' (W'.setCell ⟨w.heap.size + 2, 1, none⟩ v') := by
  have hlt := h.n.lt
  have hz := h.B.size
  have hp := blk_lt h.p
  have r' := (hg.block _ (blk_lt h.r) (fun e => by have := (hlt _ e.symm).1; omega)).trans h.r
  have p' := (hg.block _ hp (fun e => (h.f _ e.symm).1 rfl)).trans h.p
  have t' := hg.block gb h.g.2 (fun e => (h.f _ e.symm).2 rfl)
  have f' : ∀ k, v'.ownBlock = some k → k ≠ w.heap.size + 2 ∧ k ≠ gb := fun k hk => by
    rcases hv with hv | hv
    · exact h.f k (hv ▸ hk)
    · rw [hv] at hk
      have := Option.some.inj hk
      have := h.g.2
      omega
  refine ⟨?_, (Below.heap_setCell _ _ _ _ (by simp)).trans r', blk_sset1 p' v', ?_, f', ⟨h.g.1, ?_⟩, fun k l hk => ?_⟩
  · have h1 : Below w.heap.size w W' := Below.grown h.B hg h.B.size (fun k e => by have := (hlt k e).1; omega)
    exact h1.setCell (by simp) _
  · exact hn.far (fun k e => (f' k e).1) _
  · rw [World.size_setCell]; exact Nat.lt_of_lt_of_le h.g.2 hg.size
  · rw [World.cell?_of_block ((Below.heap_setCell _ _ _ gb (by have := h.g.1; simp; omega)).trans t')]
    exact h.t k l hk
end
theorem pieceS_short {l : List UInt8} (h : l.length < 2) : pieceS l = none := by
  match l, h with
  | [], _ => rfl
  | [c], _ => rfl
theorem ps_fin {c : UInt8} {r : List UInt8} {ws : List (List UInt8)} {ns : List Int} {b : Bool} (h1 : cutL 58 r = ws) (h2 : allM numS ws = some ns) (h3 : pcOk c ns = b) : (pieceS (c :: r)).isSome = b ∧ ∀ x, pieceS (c :: r) = some x → x = ⟨c, ns⟩ := by
  rw [pieceS, h1, h2, Option.bind_some, h3]
  cases b
  · exact ⟨rfl, fun x h => by cases h⟩
  · exact ⟨rfl, fun x h => (Option.some.inj h).symm⟩
theorem far2 {W : World} {g b o : Nat} {x y : Value} (h : b ≠ g) : ((W.setCell ⟨g, 0, none⟩ x).setCell ⟨g, 1, none⟩ y).cell? ⟨b, o, none⟩ = W.cell? ⟨b, o, none⟩ :=
  World.cell?_of_block ((Below.heap_setCell _ _ _ b h).trans (Below.heap_setCell _ _ _ b h))
theorem sdirection_o (p q : Int) (told : Bool) (w : World) (h : Hid (dirOk p q = told)) : Calls Tryz.prog 143 #[.int .i64 p, .int .i64 q] w fun e w' => ∃ cc ss : Fr, e = .returned (.tuple #[frv cc, frv ss, .bool told]) ∧ Below w.heap.size w w' := by
  cases told
  · exact (sdirection_f p q w h.out).mono fun e w' ⟨h1, h2⟩ => ⟨_, _, h1, h2⟩
  · exact (sdirection_t p q w h.out).mono fun e w' ⟨h1, h2⟩ => ⟨_, _, h1, h2⟩
/-- The letter and the numbers of a piece of the reference, to be read in a later world. -/
def CS (pb g cap : Nat) (c : UInt8) (n0 n1 : Int) (len : Nat) (w' : World) : Prop := w'.cell? ⟨pb, 0, none⟩ = some (.int .u8 c.toNat) ∧ w'.cell? ⟨pb, 1, none⟩ = some (.slice (some ⟨g, 0, none⟩) len cap) ∧ w'.cell? ⟨g, 0, none⟩ = some (.int .i64 n0) ∧ w'.cell? ⟨g, 1, none⟩ = some (.int .i64 n1)
theorem CS.of {pb g cap : Nat} {c : UInt8} {n0 n1 : Int} {len : Nat} {w W : World} (h : CS pb g cap c n0 n1 len w) (h1 : pb < w.heap.size) (h2 : g < w.heap.size) (hb : Below w.heap.size w W) : CS pb g cap c n0 n1 len W :=
  ⟨(hb.cell (p := ⟨_, _, _⟩) h1).trans h.1, (hb.cell (p := ⟨_, _, _⟩) h1).trans h.2.1, (hb.cell (p := ⟨_, _, _⟩) h2).trans h.2.2.1, (hb.cell (p := ⟨_, _, _⟩) h2).trans h.2.2.2⟩
theorem allM_takeS {ws : List (List UInt8)} {k : Nat} {ns : List Int} {l : List UInt8} {n : Int} (h : allM numS (ws.take k) = some ns) (hk : ws[k]? = some l) (hn : numS l = some n) : allM numS (ws.take (k + 1)) = some (ns ++ [n]) := allM_take h hk hn
set_option maxHeartbeats 4000000 in
theorem sone_short (l : List UInt8) (h : l.length < 2) (w : World) :
    Calls Tryz.prog 126 #[.string ⟨l.toArray⟩] w fun e w' => e = .returned (.tuple #[.agg #[.int .u8 0, .slice none 0 0], .bool false]) ∧ Below w.heap.size w w' := by
  have hsz : (⟨l.toArray⟩ : ByteArray).size = l.length := by rw [Lib.size_eq]
  have h2 : (l.length : Int) < 2 := by omega
  go_enter Tryz.func126, Tryz.ntmps126
  go_wp2
  exact bodyPost_ret (v := .tuple #[.agg #[.int .u8 0, .slice none 0 0], .bool false]) (by simp [results, Tryz.results126, go_sem, *]) rfl ⟨rfl, by exact below_⟩
set_option maxHeartbeats 40000000 in
theorem sone_cons (c : UInt8) (r : List UInt8) (hr : 1 ≤ r.length) (hs : r.length ≤ 1000000) (w : World) :
    Calls Tryz.prog 126 #[.string ⟨(c :: r).toArray⟩] w fun e w' => ∃ kk A len cap, e = .returned (.tuple #[.agg #[.int .u8 kk, .slice A len cap], .bool (pieceS (c :: r)).isSome]) ∧
      (∀ x, pieceS (c :: r) = some x → kk = x.k.toNat ∧ NumsAt w' (.slice A len cap) x.ns ∧ ∀ k, (Value.slice A len cap).ownBlock = some k → w.heap.size ≤ k) ∧ Below w.heap.size w w' := by
  have hsz : (⟨(c :: r).toArray⟩ : ByteArray).size = r.length + 1 := by rw [Lib.size_eq]; rfl
  have h2 : ¬ ((r.length : Int) + 1 < 2) := by omega
  have hix : ∀ W : World, (Instr.index 9 (.string ⟨(c :: r).toArray⟩) (.int .i64 0)).run Tryz.prog W = .ok (.int .u8 (c.toNat : Int)) W := idx_l (c :: r) 0 c rfl
  obtain ⟨ws, hws⟩ : ∃ ws, cutL 58 r = ws := ⟨_, rfl⟩
  have hwl := cutL_len 58 r
  have hwn := cutL_ne 58 r
  rw [hws] at hwl hwn
  have hcut : ∀ W : World, Calls Tryz.prog 125 #[.string ((⟨(c :: r).toArray⟩ : ByteArray).extract 1 (r.length + 1)), .int .u8 58] W fun e w' => ∃ gb cap, e = .returned (.slice (some ⟨gb, 0, none⟩) ws.length cap) ∧ W.heap.size ≤ gb ∧ gb < w'.heap.size ∧ Hid (∀ (k : Nat) l, ws[k]? = some l → w'.cell? ⟨gb, k, none⟩ = some (.string ⟨l.toArray⟩)) ∧ Below W.heap.size W w' := fun W => by
    have h := scut_any r 58 (by omega) W
    rw [hws] at h
    rw [ext_l, show (c :: r).extract 1 (r.length + 1) = r from by simp [List.extract_eq_take_drop]]
    refine h.mono ?_
    rintro e w' ⟨v, rfl, hO, hb⟩
    obtain ⟨g, cap, rfl, h1, h2, h3, h4, h5⟩ := hO.at (List.length_pos_iff.2 hwn)
    exact ⟨g, cap, rfl, h3, h4, Lib.hid h5, hb⟩
  have HW := Lib.hid hws
  have HL := Lib.hid hwl
  clear hws hwl hwn
  obtain ⟨W0, hW0, hR0⟩ : ∃ W, W = ((w.alloc (.cells #[.int .u8 0, .slice none 0 0] 112)).alloc (.cells #[] 3)).alloc (.cells #[.int .u8 c.toNat, .slice (some ⟨w.heap.size + 1, 0, none⟩) 0 0] 112) ∧ ∀ (W1 : World) (gb : Nat), Below W.heap.size W W1 → W.heap.size ≤ gb → gb < W1.heap.size → (∀ (k : Nat) l, ws[k]? = some l → W1.cell? ⟨gb, k, none⟩ = some (.string ⟨l.toArray⟩)) → RS w c gb ws (.slice (some ⟨w.heap.size + 1, 0, none⟩) 0 0) [] W1 := by
    refine ⟨_, rfl, fun W1 gb hb hg1 hg2 ht => ?_⟩
    have hz : (((w.alloc (.cells #[.int .u8 0, .slice none 0 0] 112)).alloc (.cells #[] 3)).alloc (.cells #[.int .u8 c.toNat, .slice (some ⟨w.heap.size + 1, 0, none⟩) 0 0] 112)).heap.size = w.heap.size + 3 := by simp
    have hb' := hb
    rw [hz] at hg1 hb
    refine ⟨?_, ?_, ?_, ?_, fun k hk => ?_, ⟨by omega, hg2⟩, ht⟩
    · exact bstep (by exact below_) hb' (by simp; omega)
    · exact (hb.block _ (by simp)).trans ((Below.heap_alloc _ _ _ (by simp; omega)).trans ((Below.heap_alloc _ _ _ (by simp)).trans (heap_alloc_last w _)))
    · refine (hb.block _ (by simp)).trans ?_
      have := heap_alloc_last ((w.alloc (.cells #[.int .u8 0, .slice none 0 0] 112)).alloc (.cells #[] 3)) (.cells #[.int .u8 c.toNat, .slice (some ⟨w.heap.size + 1, 0, none⟩) 0 0] 112)
      rwa [World.size_alloc, World.size_alloc] at this
    · have h1 := OwI.made (w.alloc (.cells #[.int .u8 0, .slice none 0 0] 112)) (w.heap.size + 1) (by simp)
      rw [World.size_alloc] at h1
      exact (h1.below ((Below.refl _ _).alloc (Nat.le_refl _) (.cells #[.int .u8 c.toNat, .slice (some ⟨w.heap.size + 1, 0, none⟩) 0 0] 112))).below hb'
    · have := Option.some.inj hk
      simp only at this
      omega
  go_enter Tryz.func126, Tryz.ntmps126
  go_upto_region 4 with fail
  rw [← hW0]
  clear hW0
  go_upto_region 6 with (go_at_call 125; (with_reducible refine (hcut _).mono ?_); rintro e w1 ⟨gb, cap, rfl, hg1, hg2, ht, hb⟩)
  have hR := hR0 w1 gb hb hg1 hg2 ht.out
  clear hR0 hb hg1 hg2 ht hcut
  go_loopw [6, 7, 8] (fun i _ _ wr => ∃ (k : Nat) (v : Value) (ns : List Int), k ≤ ws.length ∧ i = .int .i64 k ∧ Hid (allM numS (ws.take k) = some ns ∧ ns.length = k) ∧ RS w c gb ws v ns wr) (fun i _ _ _ => ws.length - (intOf i).toNat)
  case atStart => exact ⟨0, _, [], Nat.zero_le _, rfl, Lib.hid ⟨rfl, rfl⟩, hR⟩
  case round =>
    clear hR
    obtain ⟨k, v, ns, hk, rfl, hall, hR⟩ := hrel
    have hzw := hR.B.size
    by_cases hkl : k < ws.length
    · obtain ⟨l, hl⟩ : ∃ l, ws[k]? = some l := ⟨_, List.getElem?_eq_getElem hkl⟩
      have hwc := hR.t _ _ hl
      have hll : l.length ≤ 1048576 := by
        have h1 : l.length ≤ (ws.map List.length).sum := mem_sum (List.mem_of_getElem? hl)
        have h2 := HL.out
        omega
      have HK := Lib.hid hl
      have hki : (k : Int) < ws.length := by omega
      have hkb : (k : Int) + 1 ≤ 9223372036854775807 := by have := HL.out; omega
      clear hl
      go_upto_region 9 with (go_at_call 142; (with_reducible refine (snum_any l hll _).mono ?_); rintro e w2 ⟨n, ok, rfl, hn1, hn0, hb⟩)
      have hR2 := hR.below hb
      clear hb hR hwc
      obtain ⟨⟨p0, p1⟩, f0, f1⟩ := blk_ps hR2.p
      obtain ⟨⟨r0, r1⟩, g0, g1⟩ := blk_ps hR2.r
      obtain ⟨A, cap2, rfl⟩ := hR2.n.slice
      cases ok
      · have he : pieceS (c :: r) = none := by
          rw [pieceS, HW.out, allM_none HK.out (hn0 rfl)]
          rfl
        have HE := Lib.hid he
        have hBq := hR2.B
        clear he hR2 hn0 hn1
        go_wp2
        exact bodyPost_ret (v := .tuple #[.agg #[.int .u8 c.toNat, .slice A ns.length cap2], .bool false]) (by simp [results, Tryz.results126, go_sem, *]) rfl ⟨_, _, _, _, by rw [HE.out]; rfl, fun x h => (by rw [HE.out] at h; cases h), by exact below_⟩
      · have hnl := hall.out.2
        have hbz : w.heap.size + 1 ≤ (w2.alloc (.cells #[.int .i64 n] 3)).heap.size := by have := blk_lt hR2.p; simp; omega
        have HN := Lib.hid (hn1 rfl)
        have hlen : ns.length + 1 < 4000000 := by have := HL.out; omega
        have HNL := Lib.hid hnl
        have hR3 := hR2.below ((Below.refl _ _).alloc (Nat.le_refl _) (.cells #[.int .i64 n] 3))
        clear hnl hn0 hn1
        go_wp2_with (at_builtin; refine wpList_appJ rfl (.tmp 45) (.tmp 47) rfl (w.heap.size + 1) _ ns _ (by rfl) hR3.n w2.heap.size 1 n (by rfl) (World.cell?_alloc_at _ _ _ _ rfl) hlen hbz ?_; intro v2 w3 hO3 hg3 hv3; refine Hid.out ?_)
        refine Lib.hid ?_
        have hR4 := hR3.grown hg3 hO3 hv3
        have hkeep : w3.heap[w.heap.size + 2]? = (w2.alloc (.cells #[.int .i64 n] 3)).heap[w.heap.size + 2]? := hg3.block _ (blk_lt hR3.p) (fun e => (hR3.f _ e.symm).1 rfl)
        obtain ⟨⟨q0, q1⟩, h0, h1⟩ := blk_ps (W := w3) (hkeep.trans hR3.p)
        obtain ⟨A2, cap3, e2⟩ := hO3.slice
        subst e2
        rw [List.length_append] at hR4 hO3
        clear hO3 hg3 hv3 hkeep hR3 hR2 p0 p1 f0 f1 r0 r1 g0 g1 hbz
        go_wp2
        go_roundw
        case rel => exact ⟨k + 1, _, ns ++ [n], by omega, by go_num, Lib.hid ⟨allM_takeS hall.out.1 HK.out HN.out, by rw [List.length_append, HNL.out]; rfl⟩, hR4⟩
        case measure => simp [intOf]; omega
    · obtain rfl : k = ws.length := by omega
      rw [List.take_length] at hall
      obtain ⟨hall, hnl⟩ := hall.out
      have HA := Lib.hid hall
      clear hall
      by_cases h3 : c = 119
      · subst h3
        by_cases hn3 : ns.length = 3
        · obtain ⟨n0, n1, n2, rfl⟩ : ∃ n0 n1 n2, ns = [n0, n1, n2] := by
            match ns, hn3 with
            | [a, b, d], _ => exact ⟨a, b, d, rfl⟩
          obtain ⟨g, cap, rfl, hcap, hcapm, hgb, hgl, hgc⟩ := hR.n.at (by simp)
          have hC : CS (w.heap.size + 2) g cap 119 n0 n1 3 wr := by
            obtain ⟨⟨p0, p1⟩, -⟩ := blk_ps hR.p
            exact ⟨p0, p1, hgc 0 n0 rfl, hgc 1 n1 rfl⟩
          have hc2 := hgc 2 n2 rfl
          have hpl := blk_lt hR.p
          obtain ⟨told, htold⟩ : ∃ t, dirOk n0 n1 = t := ⟨_, rfl⟩
          have HT := Lib.hid htold
          clear htold
          obtain ⟨p0, p1, d0, d1⟩ := hC
          have hC : CS (w.heap.size + 2) g cap 119 n0 n1 3 wr := ⟨p0, p1, d0, d1⟩
          go_upto_region 23 with fail
          go_cut [15, 13, 14] from 81 to 93 (fun s12 _ _ wx => s12 = .bool told ∧ Below wr.heap.size wr wx)
          case first =>
            go_region_held3 (fun w' => w'.cell? ⟨w.heap.size + 2, 0, none⟩ = some (.int .u8 ((119 : UInt8)).toNat) ∧ w'.cell? ⟨w.heap.size + 2, 1, none⟩ = some (.slice (some ⟨g, 0, none⟩) 3 cap) ∧ w'.cell? ⟨g, 0, none⟩ = some (.int .i64 n0) ∧ w'.cell? ⟨g, 1, none⟩ = some (.int .i64 n1)) ((refine hC.of hpl hgl ?_; (repeat' (first | (with_reducible exact Below.refl _ _) | (with_reducible assumption) | (with_reducible refine Below.setCell ?_ (by first | omega | (simp; done) | (simp; omega)) _) | (with_reducible refine Below.alloc ?_ (by first | omega | (simp; done) | (simp; omega)) _) | (with_reducible refine below_drewN ?_ _) | (with_reducible refine Below.drew ?_))))) (first | (go_at_call 143; (with_reducible refine (sdirection_o n0 n1 told _ HT).mono ?_); rintro e w1 ⟨cc, ss, rfl, hb⟩; obtain ⟨hc, hf⟩ := bf hb (wr.heap.size) side_; have hs := hb.size; (try simp only [World.size_alloc, World.size_setCell, World.size_drew, World.heap_drewN] at hs); have hl : wr.heap.size ≤ w1.heap.size := (by omega); obtain ⟨B, hBe, hBl, hc2, hf2⟩ := bfA hb; (try simp only [World.size_alloc, World.size_setCell, World.size_drew, World.heap_drewN] at hBe); have hB : Below wr.heap.size wr w1 := bstep (by exact below_) hb side_; clear hs hb))
            all_goals (go_wp2; go_meet; exact ⟨rfl, by exact below_⟩)
          obtain ⟨rfl, hB⟩ := hcut
          have hR2 := hR.below hB
          have hnm := NumsAt.of hR2.n (by simp)
          have hBw := hR2.B
          have e0 : wc.cell? ⟨g, 0, none⟩ = some (.int .i64 n0) := (hB.cell (p := ⟨_, _, _⟩) hgl).trans d0
          have e1 : wc.cell? ⟨g, 1, none⟩ = some (.int .i64 n1) := (hB.cell (p := ⟨_, _, _⟩) hgl).trans d1
          have e2 : wc.cell? ⟨g, 2, none⟩ = some (.int .i64 n2) := (hB.cell (p := ⟨_, _, _⟩) hgl).trans hc2
          clear p0 p1 d0 d1
          obtain ⟨⟨p0, p1⟩, f0, f1⟩ := blk_ps hR2.p
          obtain ⟨⟨r0, r1⟩, g0, g1⟩ := blk_ps hR2.r
          have hgz : ∀ k, (Value.slice (some ⟨g, 0, none⟩) 3 cap).ownBlock = some k → w.heap.size + 1 ≤ k := fun k hk => by
            obtain rfl : g = k := Option.some.inj hk
            exact hgb
          have hzz : w.heap.size < wc.heap.size := blk_lt hR2.r
          have hnm : NumsAt wc (.slice (some ⟨g, 0, none⟩) 3 cap) [n0, n1, n2] := hnm
          have p1 : wc.cell? ⟨w.heap.size + 2, 1, none⟩ = some (.slice (some ⟨g, 0, none⟩) 3 cap) := p1
          clear hR2 hB hC hR hgc hc2 hcap hcapm hpl hs hsz HL hzw hk hkl hall hnl hn3 f0 f1
          cases told
          · skip
            obtain ⟨F1, F2⟩ := ps_fin HW.out HA.out (c := 119) (b := false) (by show (if (119 : UInt8) = 119 then dirOk n0 n1 && inB n2 0 3 else false) = _; rw [if_pos rfl, HT.out]; rfl)
            have HF := Lib.hid (And.intro F1 F2)
            clear F1 F2
            go_upto_region 24 with fail
            refine wp_region_noPanic ?_
            refine wp_region_held_drew (S := fun w' => w'.cell? ⟨w.heap.size + 2, 0, none⟩ = some (.int .u8 ((119 : UInt8)).toNat) ∧ w'.cell? ⟨w.heap.size + 2, 1, none⟩ = some (.slice (some ⟨g, 0, none⟩) 3 cap) ∧ w'.cell? ⟨g, 0, none⟩ = some (.int .i64 n0) ∧ w'.cell? ⟨g, 1, none⟩ = some (.int .i64 n1) ∧ w'.cell? ⟨g, 2, none⟩ = some (.int .i64 n2)) (by kernel_rfl) ?_ (fun hHeld => ?_)
            · (try dsimp only)
              (first | exact hHeld | (exact ⟨(far2 (by omega)).trans p0, (far2 (by omega)).trans p1, (far2 (by omega)).trans e0, (far2 (by omega)).trans e1, (far2 (by omega)).trans e2⟩) | (exact ⟨p0, p1, e0, e1, e2⟩))
            refine wpAnyH_take (i := 0) (v := ?vq1) (by simp; rfl) (by kernel_rfl) (by kernel_rfl) (by kernel_rfl) (fun _ _ _ h => h) (Or.inl ⟨by rfl, ?yq1⟩) (by assumption) ?rq1
            case yq1 => (intro w' hSw; obtain ⟨s0, s1, s3, s4, s5⟩ := hSw; (try dsimp only at s0 s1 s3 s4 s5); go_simp; first | done | with_reducible rfl)
            (try simp only [Act.put, List.setIfInBounds_toArray, List.set_cons_zero, List.set_cons_succ])
            refine wpAnyH_take (i := 1) (v := ?vq2) (by simp; rfl) (by kernel_rfl) (by kernel_rfl) (by kernel_rfl) (fun _ _ _ h => h) (Or.inl ⟨by rfl, ?yq2⟩) (by assumption) ?rq2
            case yq2 => (intro w' hSw; obtain ⟨s0, s1, s3, s4, s5⟩ := hSw; (try dsimp only at s0 s1 s3 s4 s5); go_simp; first | done | with_reducible rfl)
            (try simp only [Act.put, List.setIfInBounds_toArray, List.set_cons_zero, List.set_cons_succ])
            refine wpAnyH_take (i := 2) (v := ?vq3) (by simp; rfl) (by kernel_rfl) (by kernel_rfl) (by kernel_rfl) (fun _ _ _ h => h) (Or.inl ⟨by rfl, ?yq3⟩) (by assumption) ?rq3
            case yq3 => (intro w' hSw; obtain ⟨s0, s1, s3, s4, s5⟩ := hSw; (try dsimp only at s0 s1 s3 s4 s5); go_simp; first | done | with_reducible rfl)
            (try simp only [Act.put, List.setIfInBounds_toArray, List.set_cons_zero, List.set_cons_succ])
            refine wpAnyH_take (i := 3) (v := undef) (by simp; rfl) (by kernel_rfl) (by kernel_rfl) (by kernel_rfl) (fun _ _ _ h => h) (Or.inr ⟨by rfl, rfl⟩) (by assumption) ?_
            (try simp only [Act.put, List.setIfInBounds_toArray, List.set_cons_zero, List.set_cons_succ])
            refine wpAnyH_take (i := 4) (v := undef) (by simp; rfl) (by kernel_rfl) (by kernel_rfl) (by kernel_rfl) (fun _ _ _ h => h) (Or.inr ⟨by rfl, rfl⟩) (by assumption) ?_
            (try simp only [Act.put, List.setIfInBounds_toArray, List.set_cons_zero, List.set_cons_succ])
            refine wpAnyH_take (i := 5) (v := undef) (by simp; rfl) (by kernel_rfl) (by kernel_rfl) (by kernel_rfl) (fun _ _ _ h => h) (Or.inr ⟨by rfl, rfl⟩) (by assumption) ?_
            (try simp only [Act.put, List.setIfInBounds_toArray, List.set_cons_zero, List.set_cons_succ])
            refine wpAnyH_take (i := 6) (v := undef) (by simp; rfl) (by kernel_rfl) (by kernel_rfl) (by kernel_rfl) (fun _ _ _ h => h) (Or.inr ⟨by rfl, rfl⟩) (by assumption) ?_
            (try simp only [Act.put, List.setIfInBounds_toArray, List.set_cons_zero, List.set_cons_succ])
            refine wpAnyH_take (i := 7) (v := undef) (by simp; rfl) (by kernel_rfl) (by kernel_rfl) (by kernel_rfl) (fun _ _ _ h => h) (Or.inr ⟨by rfl, rfl⟩) (by assumption) ?_
            (try simp only [Act.put, List.setIfInBounds_toArray, List.set_cons_zero, List.set_cons_succ])
            refine wpAnyH_take (i := 8) (v := ?vq9) (by simp; rfl) (by kernel_rfl) (by kernel_rfl) (by kernel_rfl) (fun _ _ _ h => h) (Or.inl ⟨by rfl, ?yq9⟩) (by assumption) ?rq9
            case yq9 => (intro w' hSw; obtain ⟨s0, s1, s3, s4, s5⟩ := hSw; (try dsimp only at s0 s1 s3 s4 s5); go_simp; first | done | with_reducible rfl)
            (try simp only [Act.put, List.setIfInBounds_toArray, List.set_cons_zero, List.set_cons_succ])
            refine wpAnyH_ready (rs := [9]) (by kernel_rfl) (by simp) ?_
            refine AllReadyH.cons (by simp; rfl) (fun K hK => ?_) AllReadyH.nil
            go_simp
            go_wp2
            refine hK.out _ _ ?_ (fun hHeld => ?_)
            · (try dsimp only)
              (first | exact hHeld | (exact ⟨(far2 (by omega)).trans p0, (far2 (by omega)).trans p1, (far2 (by omega)).trans e0, (far2 (by omega)).trans e1, (far2 (by omega)).trans e2⟩) | (exact ⟨p0, p1, e0, e1, e2⟩))
            clear hK K
            (try simp only [Act.put, List.setIfInBounds_toArray, List.set_cons_zero, List.set_cons_succ])
            refine wpAnyH_take (i := 10) (v := ?vq11) (by simp; rfl) (by kernel_rfl) (by kernel_rfl) (by kernel_rfl) (fun _ _ _ h => h) (Or.inl ⟨by rfl, ?yq11⟩) (by assumption) ?rq11
            case yq11 => (intro w' hSw; obtain ⟨s0, s1, s3, s4, s5⟩ := hSw; (try dsimp only at s0 s1 s3 s4 s5); go_simp; first | done | with_reducible rfl)
            (try simp only [Act.put, List.setIfInBounds_toArray, List.set_cons_zero, List.set_cons_succ])
            refine wpAnyH_done (by kernel_rfl) ?_ _
            refine NoPanic.normal ?_
            go_wp2
            all_goals exact bodyPost_ret (v := .tuple #[.agg #[.int .u8 119, .slice (some ⟨g, 0, none⟩) 3 cap], .bool (false)]) (by simp [results, Tryz.results126, go_sem, *]) rfl ⟨_, _, _, _, (by rw [HF.out.1]), (fun x hx => by
              obtain rfl := HF.out.2 x hx
              exact ⟨rfl, (by (repeat' (first | exact hnm | (refine NumsAt.far ?_ (fun k hk => by have := hgz k hk; simp; omega) _) | (apply NumsAt.drewN) | (apply NumsAt.drew)))), fun k hk => by have := hgz k hk; omega⟩), (by exact below_)⟩
          · skip
            obtain ⟨F1, F2⟩ := ps_fin HW.out HA.out (c := 119) (b := inB n2 0 3) (by show (if (119 : UInt8) = 119 then dirOk n0 n1 && inB n2 0 3 else false) = _; rw [if_pos rfl, HT.out, Bool.true_and])
            have HF := Lib.hid (And.intro F1 F2)
            clear F1 F2
            go_upto_region 24 with fail
            refine wp_region_noPanic ?_
            refine wp_region_held_drew (S := fun w' => w'.cell? ⟨w.heap.size + 2, 0, none⟩ = some (.int .u8 ((119 : UInt8)).toNat) ∧ w'.cell? ⟨w.heap.size + 2, 1, none⟩ = some (.slice (some ⟨g, 0, none⟩) 3 cap) ∧ w'.cell? ⟨g, 0, none⟩ = some (.int .i64 n0) ∧ w'.cell? ⟨g, 1, none⟩ = some (.int .i64 n1) ∧ w'.cell? ⟨g, 2, none⟩ = some (.int .i64 n2)) (by kernel_rfl) ?_ (fun hHeld => ?_)
            · (try dsimp only)
              (first | exact hHeld | (exact ⟨(far2 (by omega)).trans p0, (far2 (by omega)).trans p1, (far2 (by omega)).trans e0, (far2 (by omega)).trans e1, (far2 (by omega)).trans e2⟩) | (exact ⟨p0, p1, e0, e1, e2⟩))
            refine wpAnyH_take (i := 0) (v := ?vq12) (by simp; rfl) (by kernel_rfl) (by kernel_rfl) (by kernel_rfl) (fun _ _ _ h => h) (Or.inl ⟨by rfl, ?yq12⟩) (by assumption) ?rq12
            case yq12 => (intro w' hSw; obtain ⟨s0, s1, s3, s4, s5⟩ := hSw; (try dsimp only at s0 s1 s3 s4 s5); go_simp; first | done | with_reducible rfl)
            (try simp only [Act.put, List.setIfInBounds_toArray, List.set_cons_zero, List.set_cons_succ])
            refine wpAnyH_take (i := 1) (v := ?vq13) (by simp; rfl) (by kernel_rfl) (by kernel_rfl) (by kernel_rfl) (fun _ _ _ h => h) (Or.inl ⟨by rfl, ?yq13⟩) (by assumption) ?rq13
            case yq13 => (intro w' hSw; obtain ⟨s0, s1, s3, s4, s5⟩ := hSw; (try dsimp only at s0 s1 s3 s4 s5); go_simp; first | done | with_reducible rfl)
            (try simp only [Act.put, List.setIfInBounds_toArray, List.set_cons_zero, List.set_cons_succ])
            refine wpAnyH_take (i := 2) (v := ?vq14) (by simp; rfl) (by kernel_rfl) (by kernel_rfl) (by kernel_rfl) (fun _ _ _ h => h) (Or.inl ⟨by rfl, ?yq14⟩) (by assumption) ?rq14
            case yq14 => (intro w' hSw; obtain ⟨s0, s1, s3, s4, s5⟩ := hSw; (try dsimp only at s0 s1 s3 s4 s5); go_simp; first | done | with_reducible rfl)
            (try simp only [Act.put, List.setIfInBounds_toArray, List.set_cons_zero, List.set_cons_succ])
            refine wpAnyH_take (i := 3) (v := ?vq15) (by simp; rfl) (by kernel_rfl) (by kernel_rfl) (by kernel_rfl) (fun _ _ _ h => h) (Or.inl ⟨by rfl, ?yq15⟩) (by assumption) ?rq15
            case yq15 => (intro w' hSw; obtain ⟨s0, s1, s3, s4, s5⟩ := hSw; (try dsimp only at s0 s1 s3 s4 s5); go_simp; first | done | with_reducible rfl)
            (try simp only [Act.put, List.setIfInBounds_toArray, List.set_cons_zero, List.set_cons_succ])
            refine wpAnyH_take (i := 4) (v := ?vq16) (by simp; rfl) (by kernel_rfl) (by kernel_rfl) (by kernel_rfl) (fun _ _ _ h => h) (Or.inl ⟨by rfl, ?yq16⟩) (by assumption) ?rq16
            case yq16 => (intro w' hSw; obtain ⟨s0, s1, s3, s4, s5⟩ := hSw; (try dsimp only at s0 s1 s3 s4 s5); go_simp; first | done | with_reducible rfl)
            (try simp only [Act.put, List.setIfInBounds_toArray, List.set_cons_zero, List.set_cons_succ])
            refine wpAnyH_take (i := 5) (v := ?vq17) (by simp; rfl) (by kernel_rfl) (by kernel_rfl) (by kernel_rfl) (fun _ _ _ h => h) (Or.inl ⟨by rfl, ?yq17⟩) (by assumption) ?rq17
            case yq17 => (intro w' hSw; obtain ⟨s0, s1, s3, s4, s5⟩ := hSw; (try dsimp only at s0 s1 s3 s4 s5); go_simp; first | done | with_reducible rfl)
            (try simp only [Act.put, List.setIfInBounds_toArray, List.set_cons_zero, List.set_cons_succ])
            refine wpAnyH_take (i := 6) (v := ?vq18) (by simp; rfl) (by kernel_rfl) (by kernel_rfl) (by kernel_rfl) (fun _ _ _ h => h) (Or.inl ⟨by rfl, ?yq18⟩) (by assumption) ?rq18
            case yq18 => (intro w' hSw; obtain ⟨s0, s1, s3, s4, s5⟩ := hSw; (try dsimp only at s0 s1 s3 s4 s5); go_simp; first | done | with_reducible rfl)
            (try simp only [Act.put, List.setIfInBounds_toArray, List.set_cons_zero, List.set_cons_succ])
            refine wpAnyH_ready (rs := [7]) (by kernel_rfl) (by simp) ?_
            refine AllReadyH.cons (by simp; rfl) (fun K hK => ?_) AllReadyH.nil
            go_simp
            (go_at_call 70; refine (l6in_any _ _ _ _).mono ?_; rintro e w1 ⟨rfl, rfl⟩)
            refine hK.out _ _ ?_ (fun hHeld => ?_)
            · (try dsimp only)
              (first | exact hHeld | (exact ⟨(far2 (by omega)).trans p0, (far2 (by omega)).trans p1, (far2 (by omega)).trans e0, (far2 (by omega)).trans e1, (far2 (by omega)).trans e2⟩) | (exact ⟨p0, p1, e0, e1, e2⟩))
            clear hK K
            (try simp only [Act.put, List.setIfInBounds_toArray, List.set_cons_zero, List.set_cons_succ])
            refine wpAnyH_take (i := 8) (v := ?vq20) (by simp; rfl) (by kernel_rfl) (by kernel_rfl) (by kernel_rfl) (fun _ _ _ h => h) (Or.inl ⟨by rfl, ?yq20⟩) (by assumption) ?rq20
            case yq20 => (intro w' hSw; obtain ⟨s0, s1, s3, s4, s5⟩ := hSw; (try dsimp only at s0 s1 s3 s4 s5); go_simp; first | done | with_reducible rfl)
            (try simp only [Act.put, List.setIfInBounds_toArray, List.set_cons_zero, List.set_cons_succ])
            refine wpAnyH_ready (rs := [9]) (by kernel_rfl) (by simp) ?_
            refine AllReadyH.cons (by simp; rfl) (fun K hK => ?_) AllReadyH.nil
            go_simp
            go_wp2
            refine hK.out _ _ ?_ (fun hHeld => ?_)
            · (try dsimp only)
              (first | exact hHeld | (exact ⟨(far2 (by omega)).trans p0, (far2 (by omega)).trans p1, (far2 (by omega)).trans e0, (far2 (by omega)).trans e1, (far2 (by omega)).trans e2⟩) | (exact ⟨p0, p1, e0, e1, e2⟩))
            clear hK K
            (try simp only [Act.put, List.setIfInBounds_toArray, List.set_cons_zero, List.set_cons_succ])
            refine wpAnyH_take (i := 10) (v := ?vq22) (by simp; rfl) (by kernel_rfl) (by kernel_rfl) (by kernel_rfl) (fun _ _ _ h => h) (Or.inl ⟨by rfl, ?yq22⟩) (by assumption) ?rq22
            case yq22 => (intro w' hSw; obtain ⟨s0, s1, s3, s4, s5⟩ := hSw; (try dsimp only at s0 s1 s3 s4 s5); go_simp; first | done | with_reducible rfl)
            (try simp only [Act.put, List.setIfInBounds_toArray, List.set_cons_zero, List.set_cons_succ])
            refine wpAnyH_done (by kernel_rfl) ?_ _
            refine NoPanic.normal ?_
            go_wp2
            all_goals exact bodyPost_ret (v := .tuple #[.agg #[.int .u8 119, .slice (some ⟨g, 0, none⟩) 3 cap], .bool (inB n2 0 3)]) (by simp [results, Tryz.results126, go_sem, *]) rfl ⟨_, _, _, _, (by rw [HF.out.1]), (fun x hx => by
              obtain rfl := HF.out.2 x hx
              exact ⟨rfl, (by (repeat' (first | exact hnm | (refine NumsAt.far ?_ (fun k hk => by have := hgz k hk; simp; omega) _) | (apply NumsAt.drewN) | (apply NumsAt.drew)))), fun k hk => by have := hgz k hk; omega⟩), (by exact below_)⟩
        · have hf : pcOk 119 ns = false := pc_len3 hn3
          obtain ⟨F1, F2⟩ := ps_fin HW.out HA.out (c := 119) (b := false) (by exact hf)
          have HF := Lib.hid (And.intro F1 F2)
          clear F1 F2
          obtain ⟨A, cap2, rfl⟩ := hR.n.slice
          obtain ⟨⟨p0, p1⟩, f0, f1⟩ := blk_ps hR.p
          obtain ⟨⟨r0, r1⟩, g0, g1⟩ := blk_ps hR.r
          have hBw := hR.B
          have hzz : w.heap.size < wr.heap.size := blk_lt hR.r
          clear hR
          have hq : ((ns.length : Int) != 3) = true := by simp; omega
          go_wp2
          all_goals exact bodyPost_ret (v := .tuple #[.agg #[.int .u8 119, .slice A ns.length cap2], .bool false]) (by simp [results, Tryz.results126, go_sem, *]) rfl ⟨_, _, _, _, (by rw [HF.out.1]), (fun x hx => by have := HF.out.1; rw [hx] at this; cases this), (by exact below_)⟩
      · have hc9 : ((c.toNat : Int) == 119) = false := u8_ne h3
        by_cases hn3 : ns.length = 2
        · obtain ⟨n0, n1, rfl⟩ : ∃ n0 n1, ns = [n0, n1] := by
            match ns, hn3 with
            | [a, b], _ => exact ⟨a, b, rfl⟩
          by_cases h114 : c = 114
          · subst h114
            obtain ⟨g, cap, rfl, hcap, hcapm, hgb, hgl, hgc⟩ := hR.n.at (by simp)
            have hC : CS (w.heap.size + 2) g cap 114 n0 n1 2 wr := by
              obtain ⟨⟨p0, p1⟩, -⟩ := blk_ps hR.p
              exact ⟨p0, p1, hgc 0 n0 rfl, hgc 1 n1 rfl⟩
            have hpl := blk_lt hR.p
            obtain ⟨told, htold⟩ : ∃ t, dirOk n0 n1 = t := ⟨_, rfl⟩
            have HT := Lib.hid htold
            clear htold
            obtain ⟨p0, p1, d0, d1⟩ := hC
            have hC : CS (w.heap.size + 2) g cap 114 n0 n1 2 wr := ⟨p0, p1, d0, d1⟩
            go_upto_region 18 with fail
            go_cut [12, 10, 11] from 61 to 73 (fun s12 _ _ wx => s12 = .bool told ∧ Below wr.heap.size wr wx)
            case first =>
              go_region_held3 (fun w' => w'.cell? ⟨w.heap.size + 2, 0, none⟩ = some (.int .u8 ((114 : UInt8)).toNat) ∧ w'.cell? ⟨w.heap.size + 2, 1, none⟩ = some (.slice (some ⟨g, 0, none⟩) 2 cap) ∧ w'.cell? ⟨g, 0, none⟩ = some (.int .i64 n0) ∧ w'.cell? ⟨g, 1, none⟩ = some (.int .i64 n1)) ((refine hC.of hpl hgl ?_; (repeat' (first | (with_reducible exact Below.refl _ _) | (with_reducible assumption) | (with_reducible refine Below.setCell ?_ (by first | omega | (simp; done) | (simp; omega)) _) | (with_reducible refine Below.alloc ?_ (by first | omega | (simp; done) | (simp; omega)) _) | (with_reducible refine below_drewN ?_ _) | (with_reducible refine Below.drew ?_))))) (first | (go_at_call 143; (with_reducible refine (sdirection_o n0 n1 told _ HT).mono ?_); rintro e w1 ⟨cc, ss, rfl, hb⟩; obtain ⟨hc, hf⟩ := bf hb (wr.heap.size) side_; have hs := hb.size; (try simp only [World.size_alloc, World.size_setCell, World.size_drew, World.heap_drewN] at hs); have hl : wr.heap.size ≤ w1.heap.size := (by omega); obtain ⟨B, hBe, hBl, hc2, hf2⟩ := bfA hb; (try simp only [World.size_alloc, World.size_setCell, World.size_drew, World.heap_drewN] at hBe); have hB : Below wr.heap.size wr w1 := bstep (by exact below_) hb side_; clear hs hb))
              all_goals (go_wp2; go_meet; exact ⟨rfl, by exact below_⟩)
            obtain ⟨rfl, hB⟩ := hcut
            have hR2 := hR.below hB
            have hnm := NumsAt.of hR2.n (by simp)
            have hBw := hR2.B
            have e0 : wc.cell? ⟨g, 0, none⟩ = some (.int .i64 n0) := (hB.cell (p := ⟨_, _, _⟩) hgl).trans d0
            have e1 : wc.cell? ⟨g, 1, none⟩ = some (.int .i64 n1) := (hB.cell (p := ⟨_, _, _⟩) hgl).trans d1
            clear p0 p1 d0 d1
            obtain ⟨⟨p0, p1⟩, f0, f1⟩ := blk_ps hR2.p
            obtain ⟨⟨r0, r1⟩, g0, g1⟩ := blk_ps hR2.r
            have hgz : ∀ k, (Value.slice (some ⟨g, 0, none⟩) 2 cap).ownBlock = some k → w.heap.size + 1 ≤ k := fun k hk => by
              obtain rfl : g = k := Option.some.inj hk
              exact hgb
            have hzz : w.heap.size < wc.heap.size := blk_lt hR2.r
            have hnm : NumsAt wc (.slice (some ⟨g, 0, none⟩) 2 cap) [n0, n1] := hnm
            have p1 : wc.cell? ⟨w.heap.size + 2, 1, none⟩ = some (.slice (some ⟨g, 0, none⟩) 2 cap) := p1
            clear hR2 hB hC hR hgc hcap hcapm hpl hs hsz HL hzw hk hkl hall hnl hn3 f0 f1
            obtain ⟨F1, F2⟩ := ps_fin HW.out HA.out (c := 114) (b := told) (by show (if (114 : UInt8) = 114 ∨ (114 : UInt8) = 102 then dirOk n0 n1 else if (114 : UInt8) = 97 ∨ (114 : UInt8) = 100 then inB n1 1 100 && inB n0 0 n1 else false) = _; rw [if_pos (.inl rfl), HT.out])
            have HF := Lib.hid (And.intro F1 F2)
            clear F1 F2
            go_wp2
            all_goals exact bodyPost_ret (v := .tuple #[.agg #[.int .u8 114, .slice (some ⟨g, 0, none⟩) 2 cap], .bool (told)]) (by simp [results, Tryz.results126, go_sem, *]) rfl ⟨_, _, _, _, (by rw [HF.out.1]), (fun x hx => by
              obtain rfl := HF.out.2 x hx
              exact ⟨rfl, (by (repeat' (first | exact hnm | (refine NumsAt.far ?_ (fun k hk => by have := hgz k hk; simp; omega) _) | (apply NumsAt.drewN) | (apply NumsAt.drew)))), fun k hk => by have := hgz k hk; omega⟩), (by exact below_)⟩
          by_cases h102 : c = 102
          · subst h102
            obtain ⟨g, cap, rfl, hcap, hcapm, hgb, hgl, hgc⟩ := hR.n.at (by simp)
            have hC : CS (w.heap.size + 2) g cap 102 n0 n1 2 wr := by
              obtain ⟨⟨p0, p1⟩, -⟩ := blk_ps hR.p
              exact ⟨p0, p1, hgc 0 n0 rfl, hgc 1 n1 rfl⟩
            have hpl := blk_lt hR.p
            obtain ⟨told, htold⟩ : ∃ t, dirOk n0 n1 = t := ⟨_, rfl⟩
            have HT := Lib.hid htold
            clear htold
            obtain ⟨p0, p1, d0, d1⟩ := hC
            have hC : CS (w.heap.size + 2) g cap 102 n0 n1 2 wr := ⟨p0, p1, d0, d1⟩
            go_upto_region 18 with fail
            go_cut [12, 10, 11] from 61 to 73 (fun s12 _ _ wx => s12 = .bool told ∧ Below wr.heap.size wr wx)
            case first =>
              go_region_held3 (fun w' => w'.cell? ⟨w.heap.size + 2, 0, none⟩ = some (.int .u8 ((102 : UInt8)).toNat) ∧ w'.cell? ⟨w.heap.size + 2, 1, none⟩ = some (.slice (some ⟨g, 0, none⟩) 2 cap) ∧ w'.cell? ⟨g, 0, none⟩ = some (.int .i64 n0) ∧ w'.cell? ⟨g, 1, none⟩ = some (.int .i64 n1)) ((refine hC.of hpl hgl ?_; (repeat' (first | (with_reducible exact Below.refl _ _) | (with_reducible assumption) | (with_reducible refine Below.setCell ?_ (by first | omega | (simp; done) | (simp; omega)) _) | (with_reducible refine Below.alloc ?_ (by first | omega | (simp; done) | (simp; omega)) _) | (with_reducible refine below_drewN ?_ _) | (with_reducible refine Below.drew ?_))))) (first | (go_at_call 143; (with_reducible refine (sdirection_o n0 n1 told _ HT).mono ?_); rintro e w1 ⟨cc, ss, rfl, hb⟩; obtain ⟨hc, hf⟩ := bf hb (wr.heap.size) side_; have hs := hb.size; (try simp only [World.size_alloc, World.size_setCell, World.size_drew, World.heap_drewN] at hs); have hl : wr.heap.size ≤ w1.heap.size := (by omega); obtain ⟨B, hBe, hBl, hc2, hf2⟩ := bfA hb; (try simp only [World.size_alloc, World.size_setCell, World.size_drew, World.heap_drewN] at hBe); have hB : Below wr.heap.size wr w1 := bstep (by exact below_) hb side_; clear hs hb))
              all_goals (go_wp2; go_meet; exact ⟨rfl, by exact below_⟩)
            obtain ⟨rfl, hB⟩ := hcut
            have hR2 := hR.below hB
            have hnm := NumsAt.of hR2.n (by simp)
            have hBw := hR2.B
            have e0 : wc.cell? ⟨g, 0, none⟩ = some (.int .i64 n0) := (hB.cell (p := ⟨_, _, _⟩) hgl).trans d0
            have e1 : wc.cell? ⟨g, 1, none⟩ = some (.int .i64 n1) := (hB.cell (p := ⟨_, _, _⟩) hgl).trans d1
            clear p0 p1 d0 d1
            obtain ⟨⟨p0, p1⟩, f0, f1⟩ := blk_ps hR2.p
            obtain ⟨⟨r0, r1⟩, g0, g1⟩ := blk_ps hR2.r
            have hgz : ∀ k, (Value.slice (some ⟨g, 0, none⟩) 2 cap).ownBlock = some k → w.heap.size + 1 ≤ k := fun k hk => by
              obtain rfl : g = k := Option.some.inj hk
              exact hgb
            have hzz : w.heap.size < wc.heap.size := blk_lt hR2.r
            have hnm : NumsAt wc (.slice (some ⟨g, 0, none⟩) 2 cap) [n0, n1] := hnm
            have p1 : wc.cell? ⟨w.heap.size + 2, 1, none⟩ = some (.slice (some ⟨g, 0, none⟩) 2 cap) := p1
            clear hR2 hB hC hR hgc hcap hcapm hpl hs hsz HL hzw hk hkl hall hnl hn3 f0 f1
            obtain ⟨F1, F2⟩ := ps_fin HW.out HA.out (c := 102) (b := told) (by show (if (102 : UInt8) = 114 ∨ (102 : UInt8) = 102 then dirOk n0 n1 else if (102 : UInt8) = 97 ∨ (102 : UInt8) = 100 then inB n1 1 100 && inB n0 0 n1 else false) = _; rw [if_pos (.inr rfl), HT.out])
            have HF := Lib.hid (And.intro F1 F2)
            clear F1 F2
            go_wp2
            all_goals exact bodyPost_ret (v := .tuple #[.agg #[.int .u8 102, .slice (some ⟨g, 0, none⟩) 2 cap], .bool (told)]) (by simp [results, Tryz.results126, go_sem, *]) rfl ⟨_, _, _, _, (by rw [HF.out.1]), (fun x hx => by
              obtain rfl := HF.out.2 x hx
              exact ⟨rfl, (by (repeat' (first | exact hnm | (refine NumsAt.far ?_ (fun k hk => by have := hgz k hk; simp; omega) _) | (apply NumsAt.drewN) | (apply NumsAt.drew)))), fun k hk => by have := hgz k hk; omega⟩), (by exact below_)⟩
          by_cases h97 : c = 97
          · subst h97
            obtain ⟨g, cap, rfl, hcap, hcapm, hgb, hgl, hgc⟩ := hR.n.at (by simp)
            have hC : CS (w.heap.size + 2) g cap 97 n0 n1 2 wr := by
              obtain ⟨⟨p0, p1⟩, -⟩ := blk_ps hR.p
              exact ⟨p0, p1, hgc 0 n0 rfl, hgc 1 n1 rfl⟩
            have hpl := blk_lt hR.p
            obtain ⟨p0, p1, d0, d1⟩ := hC
            have hC : CS (w.heap.size + 2) g cap 97 n0 n1 2 wr := ⟨p0, p1, d0, d1⟩
            have hR2 := hR
            have hnm := NumsAt.of hR2.n (by simp)
            have hBw := hR2.B
            have e0 : wr.cell? ⟨g, 0, none⟩ = some (.int .i64 n0) := d0
            have e1 : wr.cell? ⟨g, 1, none⟩ = some (.int .i64 n1) := d1
            clear p0 p1 d0 d1
            obtain ⟨⟨p0, p1⟩, f0, f1⟩ := blk_ps hR2.p
            obtain ⟨⟨r0, r1⟩, g0, g1⟩ := blk_ps hR2.r
            have hgz : ∀ k, (Value.slice (some ⟨g, 0, none⟩) 2 cap).ownBlock = some k → w.heap.size + 1 ≤ k := fun k hk => by
              obtain rfl : g = k := Option.some.inj hk
              exact hgb
            have hzz : w.heap.size < wr.heap.size := blk_lt hR2.r
            have hnm : NumsAt wr (.slice (some ⟨g, 0, none⟩) 2 cap) [n0, n1] := hnm
            have p1 : wr.cell? ⟨w.heap.size + 2, 1, none⟩ = some (.slice (some ⟨g, 0, none⟩) 2 cap) := p1
            clear hR2 hC hR hgc hcap hcapm hpl hs hsz HL hzw hk hkl hall hnl hn3 f0 f1
            cases hv : inB n1 1 100
            · skip
              obtain ⟨F1, F2⟩ := ps_fin HW.out HA.out (c := 97) (b := false) (by show (if (97 : UInt8) = 114 ∨ (97 : UInt8) = 102 then dirOk n0 n1 else if (97 : UInt8) = 97 ∨ (97 : UInt8) = 100 then inB n1 1 100 && inB n0 0 n1 else false) = _; rw [if_neg (by decide), if_pos (by decide), hv]; rfl)
              have HF := Lib.hid (And.intro F1 F2)
              clear F1 F2
              go_upto_region 27 with fail
              refine wp_region_noPanic ?_
              refine wp_region_held_drew (S := fun w' => w'.cell? ⟨w.heap.size + 2, 0, none⟩ = some (.int .u8 ((97 : UInt8)).toNat) ∧ w'.cell? ⟨w.heap.size + 2, 1, none⟩ = some (.slice (some ⟨g, 0, none⟩) 2 cap) ∧ w'.cell? ⟨g, 0, none⟩ = some (.int .i64 n0) ∧ w'.cell? ⟨g, 1, none⟩ = some (.int .i64 n1) ∧ w'.cell? ⟨g, 1, none⟩ = some (.int .i64 n1)) (by kernel_rfl) ?_ (fun hHeld => ?_)
              · (try dsimp only)
                (first | exact hHeld | (exact ⟨(far2 (by omega)).trans p0, (far2 (by omega)).trans p1, (far2 (by omega)).trans e0, (far2 (by omega)).trans e1, (far2 (by omega)).trans e1⟩) | (exact ⟨p0, p1, e0, e1, e1⟩))
              refine wpAnyH_take (i := 0) (v := ?vq23) (by simp; rfl) (by kernel_rfl) (by kernel_rfl) (by kernel_rfl) (fun _ _ _ h => h) (Or.inl ⟨by rfl, ?yq23⟩) (by assumption) ?rq23
              case yq23 => (intro w' hSw; obtain ⟨s0, s1, s3, s4, s5⟩ := hSw; (try dsimp only at s0 s1 s3 s4 s5); go_simp; first | done | with_reducible rfl)
              (try simp only [Act.put, List.setIfInBounds_toArray, List.set_cons_zero, List.set_cons_succ])
              refine wpAnyH_take (i := 1) (v := ?vq24) (by simp; rfl) (by kernel_rfl) (by kernel_rfl) (by kernel_rfl) (fun _ _ _ h => h) (Or.inl ⟨by rfl, ?yq24⟩) (by assumption) ?rq24
              case yq24 => (intro w' hSw; obtain ⟨s0, s1, s3, s4, s5⟩ := hSw; (try dsimp only at s0 s1 s3 s4 s5); go_simp; first | done | with_reducible rfl)
              (try simp only [Act.put, List.setIfInBounds_toArray, List.set_cons_zero, List.set_cons_succ])
              refine wpAnyH_take (i := 2) (v := ?vq25) (by simp; rfl) (by kernel_rfl) (by kernel_rfl) (by kernel_rfl) (fun _ _ _ h => h) (Or.inl ⟨by rfl, ?yq25⟩) (by assumption) ?rq25
              case yq25 => (intro w' hSw; obtain ⟨s0, s1, s3, s4, s5⟩ := hSw; (try dsimp only at s0 s1 s3 s4 s5); go_simp; first | done | with_reducible rfl)
              (try simp only [Act.put, List.setIfInBounds_toArray, List.set_cons_zero, List.set_cons_succ])
              refine wpAnyH_take (i := 3) (v := ?vq26) (by simp; rfl) (by kernel_rfl) (by kernel_rfl) (by kernel_rfl) (fun _ _ _ h => h) (Or.inl ⟨by rfl, ?yq26⟩) (by assumption) ?rq26
              case yq26 => (intro w' hSw; obtain ⟨s0, s1, s3, s4, s5⟩ := hSw; (try dsimp only at s0 s1 s3 s4 s5); go_simp; first | done | with_reducible rfl)
              (try simp only [Act.put, List.setIfInBounds_toArray, List.set_cons_zero, List.set_cons_succ])
              refine wpAnyH_take (i := 4) (v := ?vq27) (by simp; rfl) (by kernel_rfl) (by kernel_rfl) (by kernel_rfl) (fun _ _ _ h => h) (Or.inl ⟨by rfl, ?yq27⟩) (by assumption) ?rq27
              case yq27 => (intro w' hSw; obtain ⟨s0, s1, s3, s4, s5⟩ := hSw; (try dsimp only at s0 s1 s3 s4 s5); go_simp; first | done | with_reducible rfl)
              (try simp only [Act.put, List.setIfInBounds_toArray, List.set_cons_zero, List.set_cons_succ])
              refine wpAnyH_take (i := 5) (v := ?vq28) (by simp; rfl) (by kernel_rfl) (by kernel_rfl) (by kernel_rfl) (fun _ _ _ h => h) (Or.inl ⟨by rfl, ?yq28⟩) (by assumption) ?rq28
              case yq28 => (intro w' hSw; obtain ⟨s0, s1, s3, s4, s5⟩ := hSw; (try dsimp only at s0 s1 s3 s4 s5); go_simp; first | done | with_reducible rfl)
              (try simp only [Act.put, List.setIfInBounds_toArray, List.set_cons_zero, List.set_cons_succ])
              refine wpAnyH_take (i := 6) (v := ?vq29) (by simp; rfl) (by kernel_rfl) (by kernel_rfl) (by kernel_rfl) (fun _ _ _ h => h) (Or.inl ⟨by rfl, ?yq29⟩) (by assumption) ?rq29
              case yq29 => (intro w' hSw; obtain ⟨s0, s1, s3, s4, s5⟩ := hSw; (try dsimp only at s0 s1 s3 s4 s5); go_simp; first | done | with_reducible rfl)
              (try simp only [Act.put, List.setIfInBounds_toArray, List.set_cons_zero, List.set_cons_succ])
              refine wpAnyH_take (i := 7) (v := ?vq30) (by simp; rfl) (by kernel_rfl) (by kernel_rfl) (by kernel_rfl) (fun _ _ _ h => h) (Or.inl ⟨by rfl, ?yq30⟩) (by assumption) ?rq30
              case yq30 => (intro w' hSw; obtain ⟨s0, s1, s3, s4, s5⟩ := hSw; (try dsimp only at s0 s1 s3 s4 s5); go_simp; first | done | with_reducible rfl)
              (try simp only [Act.put, List.setIfInBounds_toArray, List.set_cons_zero, List.set_cons_succ])
              refine wpAnyH_ready (rs := [8]) (by kernel_rfl) (by simp) ?_
              refine AllReadyH.cons (by simp; rfl) (fun K hK => ?_) AllReadyH.nil
              go_simp
              (first | (go_at_call 70; refine (l6in_t _ _ _ _ (by assumption)).mono ?_; rintro e w1 ⟨rfl, rfl⟩) | (go_at_call 70; refine (l6in_f _ _ _ _ (by assumption)).mono ?_; rintro e w1 ⟨rfl, rfl⟩))
              refine hK.out _ _ ?_ (fun hHeld => ?_)
              · (try dsimp only)
                (first | exact hHeld | (exact ⟨(far2 (by omega)).trans p0, (far2 (by omega)).trans p1, (far2 (by omega)).trans e0, (far2 (by omega)).trans e1, (far2 (by omega)).trans e1⟩) | (exact ⟨p0, p1, e0, e1, e1⟩))
              clear hK K
              (try simp only [Act.put, List.setIfInBounds_toArray, List.set_cons_zero, List.set_cons_succ])
              refine wpAnyH_take (i := 9) (v := ?vq32) (by simp; rfl) (by kernel_rfl) (by kernel_rfl) (by kernel_rfl) (fun _ _ _ h => h) (Or.inl ⟨by rfl, ?yq32⟩) (by assumption) ?rq32
              case yq32 => (intro w' hSw; obtain ⟨s0, s1, s3, s4, s5⟩ := hSw; (try dsimp only at s0 s1 s3 s4 s5); go_simp; first | done | with_reducible rfl)
              (try simp only [Act.put, List.setIfInBounds_toArray, List.set_cons_zero, List.set_cons_succ])
              refine wpAnyH_take (i := 10) (v := ?vq33) (by simp; rfl) (by kernel_rfl) (by kernel_rfl) (by kernel_rfl) (fun _ _ _ h => h) (Or.inl ⟨by rfl, ?yq33⟩) (by assumption) ?rq33
              case yq33 => (intro w' hSw; obtain ⟨s0, s1, s3, s4, s5⟩ := hSw; (try dsimp only at s0 s1 s3 s4 s5); go_simp; first | done | with_reducible rfl)
              (try simp only [Act.put, List.setIfInBounds_toArray, List.set_cons_zero, List.set_cons_succ])
              refine wpAnyH_take (i := 11) (v := undef) (by simp; rfl) (by kernel_rfl) (by kernel_rfl) (by kernel_rfl) (fun _ _ _ h => h) (Or.inr ⟨by rfl, rfl⟩) (by assumption) ?_
              (try simp only [Act.put, List.setIfInBounds_toArray, List.set_cons_zero, List.set_cons_succ])
              refine wpAnyH_take (i := 12) (v := undef) (by simp; rfl) (by kernel_rfl) (by kernel_rfl) (by kernel_rfl) (fun _ _ _ h => h) (Or.inr ⟨by rfl, rfl⟩) (by assumption) ?_
              (try simp only [Act.put, List.setIfInBounds_toArray, List.set_cons_zero, List.set_cons_succ])
              refine wpAnyH_take (i := 13) (v := undef) (by simp; rfl) (by kernel_rfl) (by kernel_rfl) (by kernel_rfl) (fun _ _ _ h => h) (Or.inr ⟨by rfl, rfl⟩) (by assumption) ?_
              (try simp only [Act.put, List.setIfInBounds_toArray, List.set_cons_zero, List.set_cons_succ])
              refine wpAnyH_take (i := 14) (v := undef) (by simp; rfl) (by kernel_rfl) (by kernel_rfl) (by kernel_rfl) (fun _ _ _ h => h) (Or.inr ⟨by rfl, rfl⟩) (by assumption) ?_
              (try simp only [Act.put, List.setIfInBounds_toArray, List.set_cons_zero, List.set_cons_succ])
              refine wpAnyH_take (i := 15) (v := undef) (by simp; rfl) (by kernel_rfl) (by kernel_rfl) (by kernel_rfl) (fun _ _ _ h => h) (Or.inr ⟨by rfl, rfl⟩) (by assumption) ?_
              (try simp only [Act.put, List.setIfInBounds_toArray, List.set_cons_zero, List.set_cons_succ])
              refine wpAnyH_take (i := 16) (v := undef) (by simp; rfl) (by kernel_rfl) (by kernel_rfl) (by kernel_rfl) (fun _ _ _ h => h) (Or.inr ⟨by rfl, rfl⟩) (by assumption) ?_
              (try simp only [Act.put, List.setIfInBounds_toArray, List.set_cons_zero, List.set_cons_succ])
              refine wpAnyH_take (i := 17) (v := undef) (by simp; rfl) (by kernel_rfl) (by kernel_rfl) (by kernel_rfl) (fun _ _ _ h => h) (Or.inr ⟨by rfl, rfl⟩) (by assumption) ?_
              (try simp only [Act.put, List.setIfInBounds_toArray, List.set_cons_zero, List.set_cons_succ])
              refine wpAnyH_take (i := 18) (v := undef) (by simp; rfl) (by kernel_rfl) (by kernel_rfl) (by kernel_rfl) (fun _ _ _ h => h) (Or.inr ⟨by rfl, rfl⟩) (by assumption) ?_
              (try simp only [Act.put, List.setIfInBounds_toArray, List.set_cons_zero, List.set_cons_succ])
              refine wpAnyH_take (i := 19) (v := undef) (by simp; rfl) (by kernel_rfl) (by kernel_rfl) (by kernel_rfl) (fun _ _ _ h => h) (Or.inr ⟨by rfl, rfl⟩) (by assumption) ?_
              (try simp only [Act.put, List.setIfInBounds_toArray, List.set_cons_zero, List.set_cons_succ])
              refine wpAnyH_take (i := 20) (v := ?vq43) (by simp; rfl) (by kernel_rfl) (by kernel_rfl) (by kernel_rfl) (fun _ _ _ h => h) (Or.inl ⟨by rfl, ?yq43⟩) (by assumption) ?rq43
              case yq43 => (intro w' hSw; obtain ⟨s0, s1, s3, s4, s5⟩ := hSw; (try dsimp only at s0 s1 s3 s4 s5); go_simp; first | done | with_reducible rfl)
              (try simp only [Act.put, List.setIfInBounds_toArray, List.set_cons_zero, List.set_cons_succ])
              refine wpAnyH_ready (rs := [21]) (by kernel_rfl) (by simp) ?_
              refine AllReadyH.cons (by simp; rfl) (fun K hK => ?_) AllReadyH.nil
              go_simp
              go_wp2
              refine hK.out _ _ ?_ (fun hHeld => ?_)
              · (try dsimp only)
                (first | exact hHeld | (exact ⟨(far2 (by omega)).trans p0, (far2 (by omega)).trans p1, (far2 (by omega)).trans e0, (far2 (by omega)).trans e1, (far2 (by omega)).trans e1⟩) | (exact ⟨p0, p1, e0, e1, e1⟩))
              clear hK K
              (try simp only [Act.put, List.setIfInBounds_toArray, List.set_cons_zero, List.set_cons_succ])
              refine wpAnyH_take (i := 22) (v := ?vq45) (by simp; rfl) (by kernel_rfl) (by kernel_rfl) (by kernel_rfl) (fun _ _ _ h => h) (Or.inl ⟨by rfl, ?yq45⟩) (by assumption) ?rq45
              case yq45 => (intro w' hSw; obtain ⟨s0, s1, s3, s4, s5⟩ := hSw; (try dsimp only at s0 s1 s3 s4 s5); go_simp; first | done | with_reducible rfl)
              (try simp only [Act.put, List.setIfInBounds_toArray, List.set_cons_zero, List.set_cons_succ])
              refine wpAnyH_done (by kernel_rfl) ?_ _
              refine NoPanic.normal ?_
              go_wp2
              all_goals exact bodyPost_ret (v := .tuple #[.agg #[.int .u8 97, .slice (some ⟨g, 0, none⟩) 2 cap], .bool (false)]) (by simp [results, Tryz.results126, go_sem, *]) rfl ⟨_, _, _, _, (by rw [HF.out.1]), (fun x hx => by
                obtain rfl := HF.out.2 x hx
                exact ⟨rfl, (by (repeat' (first | exact hnm | (refine NumsAt.far ?_ (fun k hk => by have := hgz k hk; simp; omega) _) | (apply NumsAt.drewN) | (apply NumsAt.drew)))), fun k hk => by have := hgz k hk; omega⟩), (by exact below_)⟩
            · skip
              obtain ⟨F1, F2⟩ := ps_fin HW.out HA.out (c := 97) (b := inB n0 0 n1) (by show (if (97 : UInt8) = 114 ∨ (97 : UInt8) = 102 then dirOk n0 n1 else if (97 : UInt8) = 97 ∨ (97 : UInt8) = 100 then inB n1 1 100 && inB n0 0 n1 else false) = _; rw [if_neg (by decide), if_pos (by decide), hv, Bool.true_and])
              have HF := Lib.hid (And.intro F1 F2)
              clear F1 F2
              go_upto_region 27 with fail
              refine wp_region_noPanic ?_
              refine wp_region_held_drew (S := fun w' => w'.cell? ⟨w.heap.size + 2, 0, none⟩ = some (.int .u8 ((97 : UInt8)).toNat) ∧ w'.cell? ⟨w.heap.size + 2, 1, none⟩ = some (.slice (some ⟨g, 0, none⟩) 2 cap) ∧ w'.cell? ⟨g, 0, none⟩ = some (.int .i64 n0) ∧ w'.cell? ⟨g, 1, none⟩ = some (.int .i64 n1) ∧ w'.cell? ⟨g, 1, none⟩ = some (.int .i64 n1)) (by kernel_rfl) ?_ (fun hHeld => ?_)
              · (try dsimp only)
                (first | exact hHeld | (exact ⟨(far2 (by omega)).trans p0, (far2 (by omega)).trans p1, (far2 (by omega)).trans e0, (far2 (by omega)).trans e1, (far2 (by omega)).trans e1⟩) | (exact ⟨p0, p1, e0, e1, e1⟩))
              refine wpAnyH_take (i := 0) (v := ?vq46) (by simp; rfl) (by kernel_rfl) (by kernel_rfl) (by kernel_rfl) (fun _ _ _ h => h) (Or.inl ⟨by rfl, ?yq46⟩) (by assumption) ?rq46
              case yq46 => (intro w' hSw; obtain ⟨s0, s1, s3, s4, s5⟩ := hSw; (try dsimp only at s0 s1 s3 s4 s5); go_simp; first | done | with_reducible rfl)
              (try simp only [Act.put, List.setIfInBounds_toArray, List.set_cons_zero, List.set_cons_succ])
              refine wpAnyH_take (i := 1) (v := ?vq47) (by simp; rfl) (by kernel_rfl) (by kernel_rfl) (by kernel_rfl) (fun _ _ _ h => h) (Or.inl ⟨by rfl, ?yq47⟩) (by assumption) ?rq47
              case yq47 => (intro w' hSw; obtain ⟨s0, s1, s3, s4, s5⟩ := hSw; (try dsimp only at s0 s1 s3 s4 s5); go_simp; first | done | with_reducible rfl)
              (try simp only [Act.put, List.setIfInBounds_toArray, List.set_cons_zero, List.set_cons_succ])
              refine wpAnyH_take (i := 2) (v := ?vq48) (by simp; rfl) (by kernel_rfl) (by kernel_rfl) (by kernel_rfl) (fun _ _ _ h => h) (Or.inl ⟨by rfl, ?yq48⟩) (by assumption) ?rq48
              case yq48 => (intro w' hSw; obtain ⟨s0, s1, s3, s4, s5⟩ := hSw; (try dsimp only at s0 s1 s3 s4 s5); go_simp; first | done | with_reducible rfl)
              (try simp only [Act.put, List.setIfInBounds_toArray, List.set_cons_zero, List.set_cons_succ])
              refine wpAnyH_take (i := 3) (v := ?vq49) (by simp; rfl) (by kernel_rfl) (by kernel_rfl) (by kernel_rfl) (fun _ _ _ h => h) (Or.inl ⟨by rfl, ?yq49⟩) (by assumption) ?rq49
              case yq49 => (intro w' hSw; obtain ⟨s0, s1, s3, s4, s5⟩ := hSw; (try dsimp only at s0 s1 s3 s4 s5); go_simp; first | done | with_reducible rfl)
              (try simp only [Act.put, List.setIfInBounds_toArray, List.set_cons_zero, List.set_cons_succ])
              refine wpAnyH_take (i := 4) (v := ?vq50) (by simp; rfl) (by kernel_rfl) (by kernel_rfl) (by kernel_rfl) (fun _ _ _ h => h) (Or.inl ⟨by rfl, ?yq50⟩) (by assumption) ?rq50
              case yq50 => (intro w' hSw; obtain ⟨s0, s1, s3, s4, s5⟩ := hSw; (try dsimp only at s0 s1 s3 s4 s5); go_simp; first | done | with_reducible rfl)
              (try simp only [Act.put, List.setIfInBounds_toArray, List.set_cons_zero, List.set_cons_succ])
              refine wpAnyH_take (i := 5) (v := ?vq51) (by simp; rfl) (by kernel_rfl) (by kernel_rfl) (by kernel_rfl) (fun _ _ _ h => h) (Or.inl ⟨by rfl, ?yq51⟩) (by assumption) ?rq51
              case yq51 => (intro w' hSw; obtain ⟨s0, s1, s3, s4, s5⟩ := hSw; (try dsimp only at s0 s1 s3 s4 s5); go_simp; first | done | with_reducible rfl)
              (try simp only [Act.put, List.setIfInBounds_toArray, List.set_cons_zero, List.set_cons_succ])
              refine wpAnyH_take (i := 6) (v := ?vq52) (by simp; rfl) (by kernel_rfl) (by kernel_rfl) (by kernel_rfl) (fun _ _ _ h => h) (Or.inl ⟨by rfl, ?yq52⟩) (by assumption) ?rq52
              case yq52 => (intro w' hSw; obtain ⟨s0, s1, s3, s4, s5⟩ := hSw; (try dsimp only at s0 s1 s3 s4 s5); go_simp; first | done | with_reducible rfl)
              (try simp only [Act.put, List.setIfInBounds_toArray, List.set_cons_zero, List.set_cons_succ])
              refine wpAnyH_take (i := 7) (v := ?vq53) (by simp; rfl) (by kernel_rfl) (by kernel_rfl) (by kernel_rfl) (fun _ _ _ h => h) (Or.inl ⟨by rfl, ?yq53⟩) (by assumption) ?rq53
              case yq53 => (intro w' hSw; obtain ⟨s0, s1, s3, s4, s5⟩ := hSw; (try dsimp only at s0 s1 s3 s4 s5); go_simp; first | done | with_reducible rfl)
              (try simp only [Act.put, List.setIfInBounds_toArray, List.set_cons_zero, List.set_cons_succ])
              refine wpAnyH_ready (rs := [8]) (by kernel_rfl) (by simp) ?_
              refine AllReadyH.cons (by simp; rfl) (fun K hK => ?_) AllReadyH.nil
              go_simp
              (first | (go_at_call 70; refine (l6in_t _ _ _ _ (by assumption)).mono ?_; rintro e w1 ⟨rfl, rfl⟩) | (go_at_call 70; refine (l6in_any _ _ _ _).mono ?_; rintro e w1 ⟨rfl, rfl⟩))
              refine hK.out _ _ ?_ (fun hHeld => ?_)
              · (try dsimp only)
                (first | exact hHeld | (exact ⟨(far2 (by omega)).trans p0, (far2 (by omega)).trans p1, (far2 (by omega)).trans e0, (far2 (by omega)).trans e1, (far2 (by omega)).trans e1⟩) | (exact ⟨p0, p1, e0, e1, e1⟩))
              clear hK K
              (try simp only [Act.put, List.setIfInBounds_toArray, List.set_cons_zero, List.set_cons_succ])
              refine wpAnyH_take (i := 9) (v := ?vq55) (by simp; rfl) (by kernel_rfl) (by kernel_rfl) (by kernel_rfl) (fun _ _ _ h => h) (Or.inl ⟨by rfl, ?yq55⟩) (by assumption) ?rq55
              case yq55 => (intro w' hSw; obtain ⟨s0, s1, s3, s4, s5⟩ := hSw; (try dsimp only at s0 s1 s3 s4 s5); go_simp; first | done | with_reducible rfl)
              (try simp only [Act.put, List.setIfInBounds_toArray, List.set_cons_zero, List.set_cons_succ])
              refine wpAnyH_take (i := 10) (v := ?vq56) (by simp; rfl) (by kernel_rfl) (by kernel_rfl) (by kernel_rfl) (fun _ _ _ h => h) (Or.inl ⟨by rfl, ?yq56⟩) (by assumption) ?rq56
              case yq56 => (intro w' hSw; obtain ⟨s0, s1, s3, s4, s5⟩ := hSw; (try dsimp only at s0 s1 s3 s4 s5); go_simp; first | done | with_reducible rfl)
              (try simp only [Act.put, List.setIfInBounds_toArray, List.set_cons_zero, List.set_cons_succ])
              refine wpAnyH_take (i := 11) (v := ?vq57) (by simp; rfl) (by kernel_rfl) (by kernel_rfl) (by kernel_rfl) (fun _ _ _ h => h) (Or.inl ⟨by rfl, ?yq57⟩) (by assumption) ?rq57
              case yq57 => (intro w' hSw; obtain ⟨s0, s1, s3, s4, s5⟩ := hSw; (try dsimp only at s0 s1 s3 s4 s5); go_simp; first | done | with_reducible rfl)
              (try simp only [Act.put, List.setIfInBounds_toArray, List.set_cons_zero, List.set_cons_succ])
              refine wpAnyH_take (i := 12) (v := ?vq58) (by simp; rfl) (by kernel_rfl) (by kernel_rfl) (by kernel_rfl) (fun _ _ _ h => h) (Or.inl ⟨by rfl, ?yq58⟩) (by assumption) ?rq58
              case yq58 => (intro w' hSw; obtain ⟨s0, s1, s3, s4, s5⟩ := hSw; (try dsimp only at s0 s1 s3 s4 s5); go_simp; first | done | with_reducible rfl)
              (try simp only [Act.put, List.setIfInBounds_toArray, List.set_cons_zero, List.set_cons_succ])
              refine wpAnyH_take (i := 13) (v := ?vq59) (by simp; rfl) (by kernel_rfl) (by kernel_rfl) (by kernel_rfl) (fun _ _ _ h => h) (Or.inl ⟨by rfl, ?yq59⟩) (by assumption) ?rq59
              case yq59 => (intro w' hSw; obtain ⟨s0, s1, s3, s4, s5⟩ := hSw; (try dsimp only at s0 s1 s3 s4 s5); go_simp; first | done | with_reducible rfl)
              (try simp only [Act.put, List.setIfInBounds_toArray, List.set_cons_zero, List.set_cons_succ])
              refine wpAnyH_take (i := 14) (v := ?vq60) (by simp; rfl) (by kernel_rfl) (by kernel_rfl) (by kernel_rfl) (fun _ _ _ h => h) (Or.inl ⟨by rfl, ?yq60⟩) (by assumption) ?rq60
              case yq60 => (intro w' hSw; obtain ⟨s0, s1, s3, s4, s5⟩ := hSw; (try dsimp only at s0 s1 s3 s4 s5); go_simp; first | done | with_reducible rfl)
              (try simp only [Act.put, List.setIfInBounds_toArray, List.set_cons_zero, List.set_cons_succ])
              refine wpAnyH_take (i := 15) (v := ?vq61) (by simp; rfl) (by kernel_rfl) (by kernel_rfl) (by kernel_rfl) (fun _ _ _ h => h) (Or.inl ⟨by rfl, ?yq61⟩) (by assumption) ?rq61
              case yq61 => (intro w' hSw; obtain ⟨s0, s1, s3, s4, s5⟩ := hSw; (try dsimp only at s0 s1 s3 s4 s5); go_simp; first | done | with_reducible rfl)
              (try simp only [Act.put, List.setIfInBounds_toArray, List.set_cons_zero, List.set_cons_succ])
              refine wpAnyH_take (i := 16) (v := ?vq62) (by simp; rfl) (by kernel_rfl) (by kernel_rfl) (by kernel_rfl) (fun _ _ _ h => h) (Or.inl ⟨by rfl, ?yq62⟩) (by assumption) ?rq62
              case yq62 => (intro w' hSw; obtain ⟨s0, s1, s3, s4, s5⟩ := hSw; (try dsimp only at s0 s1 s3 s4 s5); go_simp; first | done | with_reducible rfl)
              (try simp only [Act.put, List.setIfInBounds_toArray, List.set_cons_zero, List.set_cons_succ])
              refine wpAnyH_take (i := 17) (v := ?vq63) (by simp; rfl) (by kernel_rfl) (by kernel_rfl) (by kernel_rfl) (fun _ _ _ h => h) (Or.inl ⟨by rfl, ?yq63⟩) (by assumption) ?rq63
              case yq63 => (intro w' hSw; obtain ⟨s0, s1, s3, s4, s5⟩ := hSw; (try dsimp only at s0 s1 s3 s4 s5); go_simp; first | done | with_reducible rfl)
              (try simp only [Act.put, List.setIfInBounds_toArray, List.set_cons_zero, List.set_cons_succ])
              refine wpAnyH_take (i := 18) (v := ?vq64) (by simp; rfl) (by kernel_rfl) (by kernel_rfl) (by kernel_rfl) (fun _ _ _ h => h) (Or.inl ⟨by rfl, ?yq64⟩) (by assumption) ?rq64
              case yq64 => (intro w' hSw; obtain ⟨s0, s1, s3, s4, s5⟩ := hSw; (try dsimp only at s0 s1 s3 s4 s5); go_simp; first | done | with_reducible rfl)
              (try simp only [Act.put, List.setIfInBounds_toArray, List.set_cons_zero, List.set_cons_succ])
              refine wpAnyH_ready (rs := [19]) (by kernel_rfl) (by simp) ?_
              refine AllReadyH.cons (by simp; rfl) (fun K hK => ?_) AllReadyH.nil
              go_simp
              (first | (go_at_call 70; refine (l6in_t _ _ _ _ (by assumption)).mono ?_; rintro e w1 ⟨rfl, rfl⟩) | (go_at_call 70; refine (l6in_any _ _ _ _).mono ?_; rintro e w1 ⟨rfl, rfl⟩))
              refine hK.out _ _ ?_ (fun hHeld => ?_)
              · (try dsimp only)
                (first | exact hHeld | (exact ⟨(far2 (by omega)).trans p0, (far2 (by omega)).trans p1, (far2 (by omega)).trans e0, (far2 (by omega)).trans e1, (far2 (by omega)).trans e1⟩) | (exact ⟨p0, p1, e0, e1, e1⟩))
              clear hK K
              (try simp only [Act.put, List.setIfInBounds_toArray, List.set_cons_zero, List.set_cons_succ])
              refine wpAnyH_take (i := 20) (v := ?vq66) (by simp; rfl) (by kernel_rfl) (by kernel_rfl) (by kernel_rfl) (fun _ _ _ h => h) (Or.inl ⟨by rfl, ?yq66⟩) (by assumption) ?rq66
              case yq66 => (intro w' hSw; obtain ⟨s0, s1, s3, s4, s5⟩ := hSw; (try dsimp only at s0 s1 s3 s4 s5); go_simp; first | done | with_reducible rfl)
              (try simp only [Act.put, List.setIfInBounds_toArray, List.set_cons_zero, List.set_cons_succ])
              refine wpAnyH_ready (rs := [21]) (by kernel_rfl) (by simp) ?_
              refine AllReadyH.cons (by simp; rfl) (fun K hK => ?_) AllReadyH.nil
              go_simp
              go_wp2
              refine hK.out _ _ ?_ (fun hHeld => ?_)
              · (try dsimp only)
                (first | exact hHeld | (exact ⟨(far2 (by omega)).trans p0, (far2 (by omega)).trans p1, (far2 (by omega)).trans e0, (far2 (by omega)).trans e1, (far2 (by omega)).trans e1⟩) | (exact ⟨p0, p1, e0, e1, e1⟩))
              clear hK K
              (try simp only [Act.put, List.setIfInBounds_toArray, List.set_cons_zero, List.set_cons_succ])
              refine wpAnyH_take (i := 22) (v := ?vq68) (by simp; rfl) (by kernel_rfl) (by kernel_rfl) (by kernel_rfl) (fun _ _ _ h => h) (Or.inl ⟨by rfl, ?yq68⟩) (by assumption) ?rq68
              case yq68 => (intro w' hSw; obtain ⟨s0, s1, s3, s4, s5⟩ := hSw; (try dsimp only at s0 s1 s3 s4 s5); go_simp; first | done | with_reducible rfl)
              (try simp only [Act.put, List.setIfInBounds_toArray, List.set_cons_zero, List.set_cons_succ])
              refine wpAnyH_done (by kernel_rfl) ?_ _
              refine NoPanic.normal ?_
              go_wp2
              all_goals exact bodyPost_ret (v := .tuple #[.agg #[.int .u8 97, .slice (some ⟨g, 0, none⟩) 2 cap], .bool (inB n0 0 n1)]) (by simp [results, Tryz.results126, go_sem, *]) rfl ⟨_, _, _, _, (by rw [HF.out.1]), (fun x hx => by
                obtain rfl := HF.out.2 x hx
                exact ⟨rfl, (by (repeat' (first | exact hnm | (refine NumsAt.far ?_ (fun k hk => by have := hgz k hk; simp; omega) _) | (apply NumsAt.drewN) | (apply NumsAt.drew)))), fun k hk => by have := hgz k hk; omega⟩), (by exact below_)⟩
          by_cases h100 : c = 100
          · subst h100
            obtain ⟨g, cap, rfl, hcap, hcapm, hgb, hgl, hgc⟩ := hR.n.at (by simp)
            have hC : CS (w.heap.size + 2) g cap 100 n0 n1 2 wr := by
              obtain ⟨⟨p0, p1⟩, -⟩ := blk_ps hR.p
              exact ⟨p0, p1, hgc 0 n0 rfl, hgc 1 n1 rfl⟩
            have hpl := blk_lt hR.p
            obtain ⟨p0, p1, d0, d1⟩ := hC
            have hC : CS (w.heap.size + 2) g cap 100 n0 n1 2 wr := ⟨p0, p1, d0, d1⟩
            have hR2 := hR
            have hnm := NumsAt.of hR2.n (by simp)
            have hBw := hR2.B
            have e0 : wr.cell? ⟨g, 0, none⟩ = some (.int .i64 n0) := d0
            have e1 : wr.cell? ⟨g, 1, none⟩ = some (.int .i64 n1) := d1
            clear p0 p1 d0 d1
            obtain ⟨⟨p0, p1⟩, f0, f1⟩ := blk_ps hR2.p
            obtain ⟨⟨r0, r1⟩, g0, g1⟩ := blk_ps hR2.r
            have hgz : ∀ k, (Value.slice (some ⟨g, 0, none⟩) 2 cap).ownBlock = some k → w.heap.size + 1 ≤ k := fun k hk => by
              obtain rfl : g = k := Option.some.inj hk
              exact hgb
            have hzz : w.heap.size < wr.heap.size := blk_lt hR2.r
            have hnm : NumsAt wr (.slice (some ⟨g, 0, none⟩) 2 cap) [n0, n1] := hnm
            have p1 : wr.cell? ⟨w.heap.size + 2, 1, none⟩ = some (.slice (some ⟨g, 0, none⟩) 2 cap) := p1
            clear hR2 hC hR hgc hcap hcapm hpl hs hsz HL hzw hk hkl hall hnl hn3 f0 f1
            cases hv : inB n1 1 100
            · skip
              obtain ⟨F1, F2⟩ := ps_fin HW.out HA.out (c := 100) (b := false) (by show (if (100 : UInt8) = 114 ∨ (100 : UInt8) = 102 then dirOk n0 n1 else if (100 : UInt8) = 97 ∨ (100 : UInt8) = 100 then inB n1 1 100 && inB n0 0 n1 else false) = _; rw [if_neg (by decide), if_pos (by decide), hv]; rfl)
              have HF := Lib.hid (And.intro F1 F2)
              clear F1 F2
              go_upto_region 27 with fail
              refine wp_region_noPanic ?_
              refine wp_region_held_drew (S := fun w' => w'.cell? ⟨w.heap.size + 2, 0, none⟩ = some (.int .u8 ((100 : UInt8)).toNat) ∧ w'.cell? ⟨w.heap.size + 2, 1, none⟩ = some (.slice (some ⟨g, 0, none⟩) 2 cap) ∧ w'.cell? ⟨g, 0, none⟩ = some (.int .i64 n0) ∧ w'.cell? ⟨g, 1, none⟩ = some (.int .i64 n1) ∧ w'.cell? ⟨g, 1, none⟩ = some (.int .i64 n1)) (by kernel_rfl) ?_ (fun hHeld => ?_)
              · (try dsimp only)
                (first | exact hHeld | (exact ⟨(far2 (by omega)).trans p0, (far2 (by omega)).trans p1, (far2 (by omega)).trans e0, (far2 (by omega)).trans e1, (far2 (by omega)).trans e1⟩) | (exact ⟨p0, p1, e0, e1, e1⟩))
              refine wpAnyH_take (i := 0) (v := ?vq69) (by simp; rfl) (by kernel_rfl) (by kernel_rfl) (by kernel_rfl) (fun _ _ _ h => h) (Or.inl ⟨by rfl, ?yq69⟩) (by assumption) ?rq69
              case yq69 => (intro w' hSw; obtain ⟨s0, s1, s3, s4, s5⟩ := hSw; (try dsimp only at s0 s1 s3 s4 s5); go_simp; first | done | with_reducible rfl)
              (try simp only [Act.put, List.setIfInBounds_toArray, List.set_cons_zero, List.set_cons_succ])
              refine wpAnyH_take (i := 1) (v := ?vq70) (by simp; rfl) (by kernel_rfl) (by kernel_rfl) (by kernel_rfl) (fun _ _ _ h => h) (Or.inl ⟨by rfl, ?yq70⟩) (by assumption) ?rq70
              case yq70 => (intro w' hSw; obtain ⟨s0, s1, s3, s4, s5⟩ := hSw; (try dsimp only at s0 s1 s3 s4 s5); go_simp; first | done | with_reducible rfl)
              (try simp only [Act.put, List.setIfInBounds_toArray, List.set_cons_zero, List.set_cons_succ])
              refine wpAnyH_take (i := 2) (v := ?vq71) (by simp; rfl) (by kernel_rfl) (by kernel_rfl) (by kernel_rfl) (fun _ _ _ h => h) (Or.inl ⟨by rfl, ?yq71⟩) (by assumption) ?rq71
              case yq71 => (intro w' hSw; obtain ⟨s0, s1, s3, s4, s5⟩ := hSw; (try dsimp only at s0 s1 s3 s4 s5); go_simp; first | done | with_reducible rfl)
              (try simp only [Act.put, List.setIfInBounds_toArray, List.set_cons_zero, List.set_cons_succ])
              refine wpAnyH_take (i := 3) (v := ?vq72) (by simp; rfl) (by kernel_rfl) (by kernel_rfl) (by kernel_rfl) (fun _ _ _ h => h) (Or.inl ⟨by rfl, ?yq72⟩) (by assumption) ?rq72
              case yq72 => (intro w' hSw; obtain ⟨s0, s1, s3, s4, s5⟩ := hSw; (try dsimp only at s0 s1 s3 s4 s5); go_simp; first | done | with_reducible rfl)
              (try simp only [Act.put, List.setIfInBounds_toArray, List.set_cons_zero, List.set_cons_succ])
              refine wpAnyH_take (i := 4) (v := ?vq73) (by simp; rfl) (by kernel_rfl) (by kernel_rfl) (by kernel_rfl) (fun _ _ _ h => h) (Or.inl ⟨by rfl, ?yq73⟩) (by assumption) ?rq73
              case yq73 => (intro w' hSw; obtain ⟨s0, s1, s3, s4, s5⟩ := hSw; (try dsimp only at s0 s1 s3 s4 s5); go_simp; first | done | with_reducible rfl)
              (try simp only [Act.put, List.setIfInBounds_toArray, List.set_cons_zero, List.set_cons_succ])
              refine wpAnyH_take (i := 5) (v := ?vq74) (by simp; rfl) (by kernel_rfl) (by kernel_rfl) (by kernel_rfl) (fun _ _ _ h => h) (Or.inl ⟨by rfl, ?yq74⟩) (by assumption) ?rq74
              case yq74 => (intro w' hSw; obtain ⟨s0, s1, s3, s4, s5⟩ := hSw; (try dsimp only at s0 s1 s3 s4 s5); go_simp; first | done | with_reducible rfl)
              (try simp only [Act.put, List.setIfInBounds_toArray, List.set_cons_zero, List.set_cons_succ])
              refine wpAnyH_take (i := 6) (v := ?vq75) (by simp; rfl) (by kernel_rfl) (by kernel_rfl) (by kernel_rfl) (fun _ _ _ h => h) (Or.inl ⟨by rfl, ?yq75⟩) (by assumption) ?rq75
              case yq75 => (intro w' hSw; obtain ⟨s0, s1, s3, s4, s5⟩ := hSw; (try dsimp only at s0 s1 s3 s4 s5); go_simp; first | done | with_reducible rfl)
              (try simp only [Act.put, List.setIfInBounds_toArray, List.set_cons_zero, List.set_cons_succ])
              refine wpAnyH_take (i := 7) (v := ?vq76) (by simp; rfl) (by kernel_rfl) (by kernel_rfl) (by kernel_rfl) (fun _ _ _ h => h) (Or.inl ⟨by rfl, ?yq76⟩) (by assumption) ?rq76
              case yq76 => (intro w' hSw; obtain ⟨s0, s1, s3, s4, s5⟩ := hSw; (try dsimp only at s0 s1 s3 s4 s5); go_simp; first | done | with_reducible rfl)
              (try simp only [Act.put, List.setIfInBounds_toArray, List.set_cons_zero, List.set_cons_succ])
              refine wpAnyH_ready (rs := [8]) (by kernel_rfl) (by simp) ?_
              refine AllReadyH.cons (by simp; rfl) (fun K hK => ?_) AllReadyH.nil
              go_simp
              (first | (go_at_call 70; refine (l6in_t _ _ _ _ (by assumption)).mono ?_; rintro e w1 ⟨rfl, rfl⟩) | (go_at_call 70; refine (l6in_f _ _ _ _ (by assumption)).mono ?_; rintro e w1 ⟨rfl, rfl⟩))
              refine hK.out _ _ ?_ (fun hHeld => ?_)
              · (try dsimp only)
                (first | exact hHeld | (exact ⟨(far2 (by omega)).trans p0, (far2 (by omega)).trans p1, (far2 (by omega)).trans e0, (far2 (by omega)).trans e1, (far2 (by omega)).trans e1⟩) | (exact ⟨p0, p1, e0, e1, e1⟩))
              clear hK K
              (try simp only [Act.put, List.setIfInBounds_toArray, List.set_cons_zero, List.set_cons_succ])
              refine wpAnyH_take (i := 9) (v := ?vq78) (by simp; rfl) (by kernel_rfl) (by kernel_rfl) (by kernel_rfl) (fun _ _ _ h => h) (Or.inl ⟨by rfl, ?yq78⟩) (by assumption) ?rq78
              case yq78 => (intro w' hSw; obtain ⟨s0, s1, s3, s4, s5⟩ := hSw; (try dsimp only at s0 s1 s3 s4 s5); go_simp; first | done | with_reducible rfl)
              (try simp only [Act.put, List.setIfInBounds_toArray, List.set_cons_zero, List.set_cons_succ])
              refine wpAnyH_take (i := 10) (v := ?vq79) (by simp; rfl) (by kernel_rfl) (by kernel_rfl) (by kernel_rfl) (fun _ _ _ h => h) (Or.inl ⟨by rfl, ?yq79⟩) (by assumption) ?rq79
              case yq79 => (intro w' hSw; obtain ⟨s0, s1, s3, s4, s5⟩ := hSw; (try dsimp only at s0 s1 s3 s4 s5); go_simp; first | done | with_reducible rfl)
              (try simp only [Act.put, List.setIfInBounds_toArray, List.set_cons_zero, List.set_cons_succ])
              refine wpAnyH_take (i := 11) (v := undef) (by simp; rfl) (by kernel_rfl) (by kernel_rfl) (by kernel_rfl) (fun _ _ _ h => h) (Or.inr ⟨by rfl, rfl⟩) (by assumption) ?_
              (try simp only [Act.put, List.setIfInBounds_toArray, List.set_cons_zero, List.set_cons_succ])
              refine wpAnyH_take (i := 12) (v := undef) (by simp; rfl) (by kernel_rfl) (by kernel_rfl) (by kernel_rfl) (fun _ _ _ h => h) (Or.inr ⟨by rfl, rfl⟩) (by assumption) ?_
              (try simp only [Act.put, List.setIfInBounds_toArray, List.set_cons_zero, List.set_cons_succ])
              refine wpAnyH_take (i := 13) (v := undef) (by simp; rfl) (by kernel_rfl) (by kernel_rfl) (by kernel_rfl) (fun _ _ _ h => h) (Or.inr ⟨by rfl, rfl⟩) (by assumption) ?_
              (try simp only [Act.put, List.setIfInBounds_toArray, List.set_cons_zero, List.set_cons_succ])
              refine wpAnyH_take (i := 14) (v := undef) (by simp; rfl) (by kernel_rfl) (by kernel_rfl) (by kernel_rfl) (fun _ _ _ h => h) (Or.inr ⟨by rfl, rfl⟩) (by assumption) ?_
              (try simp only [Act.put, List.setIfInBounds_toArray, List.set_cons_zero, List.set_cons_succ])
              refine wpAnyH_take (i := 15) (v := undef) (by simp; rfl) (by kernel_rfl) (by kernel_rfl) (by kernel_rfl) (fun _ _ _ h => h) (Or.inr ⟨by rfl, rfl⟩) (by assumption) ?_
              (try simp only [Act.put, List.setIfInBounds_toArray, List.set_cons_zero, List.set_cons_succ])
              refine wpAnyH_take (i := 16) (v := undef) (by simp; rfl) (by kernel_rfl) (by kernel_rfl) (by kernel_rfl) (fun _ _ _ h => h) (Or.inr ⟨by rfl, rfl⟩) (by assumption) ?_
              (try simp only [Act.put, List.setIfInBounds_toArray, List.set_cons_zero, List.set_cons_succ])
              refine wpAnyH_take (i := 17) (v := undef) (by simp; rfl) (by kernel_rfl) (by kernel_rfl) (by kernel_rfl) (fun _ _ _ h => h) (Or.inr ⟨by rfl, rfl⟩) (by assumption) ?_
              (try simp only [Act.put, List.setIfInBounds_toArray, List.set_cons_zero, List.set_cons_succ])
              refine wpAnyH_take (i := 18) (v := undef) (by simp; rfl) (by kernel_rfl) (by kernel_rfl) (by kernel_rfl) (fun _ _ _ h => h) (Or.inr ⟨by rfl, rfl⟩) (by assumption) ?_
              (try simp only [Act.put, List.setIfInBounds_toArray, List.set_cons_zero, List.set_cons_succ])
              refine wpAnyH_take (i := 19) (v := undef) (by simp; rfl) (by kernel_rfl) (by kernel_rfl) (by kernel_rfl) (fun _ _ _ h => h) (Or.inr ⟨by rfl, rfl⟩) (by assumption) ?_
              (try simp only [Act.put, List.setIfInBounds_toArray, List.set_cons_zero, List.set_cons_succ])
              refine wpAnyH_take (i := 20) (v := ?vq89) (by simp; rfl) (by kernel_rfl) (by kernel_rfl) (by kernel_rfl) (fun _ _ _ h => h) (Or.inl ⟨by rfl, ?yq89⟩) (by assumption) ?rq89
              case yq89 => (intro w' hSw; obtain ⟨s0, s1, s3, s4, s5⟩ := hSw; (try dsimp only at s0 s1 s3 s4 s5); go_simp; first | done | with_reducible rfl)
              (try simp only [Act.put, List.setIfInBounds_toArray, List.set_cons_zero, List.set_cons_succ])
              refine wpAnyH_ready (rs := [21]) (by kernel_rfl) (by simp) ?_
              refine AllReadyH.cons (by simp; rfl) (fun K hK => ?_) AllReadyH.nil
              go_simp
              go_wp2
              refine hK.out _ _ ?_ (fun hHeld => ?_)
              · (try dsimp only)
                (first | exact hHeld | (exact ⟨(far2 (by omega)).trans p0, (far2 (by omega)).trans p1, (far2 (by omega)).trans e0, (far2 (by omega)).trans e1, (far2 (by omega)).trans e1⟩) | (exact ⟨p0, p1, e0, e1, e1⟩))
              clear hK K
              (try simp only [Act.put, List.setIfInBounds_toArray, List.set_cons_zero, List.set_cons_succ])
              refine wpAnyH_take (i := 22) (v := ?vq91) (by simp; rfl) (by kernel_rfl) (by kernel_rfl) (by kernel_rfl) (fun _ _ _ h => h) (Or.inl ⟨by rfl, ?yq91⟩) (by assumption) ?rq91
              case yq91 => (intro w' hSw; obtain ⟨s0, s1, s3, s4, s5⟩ := hSw; (try dsimp only at s0 s1 s3 s4 s5); go_simp; first | done | with_reducible rfl)
              (try simp only [Act.put, List.setIfInBounds_toArray, List.set_cons_zero, List.set_cons_succ])
              refine wpAnyH_done (by kernel_rfl) ?_ _
              refine NoPanic.normal ?_
              go_wp2
              all_goals exact bodyPost_ret (v := .tuple #[.agg #[.int .u8 100, .slice (some ⟨g, 0, none⟩) 2 cap], .bool (false)]) (by simp [results, Tryz.results126, go_sem, *]) rfl ⟨_, _, _, _, (by rw [HF.out.1]), (fun x hx => by
                obtain rfl := HF.out.2 x hx
                exact ⟨rfl, (by (repeat' (first | exact hnm | (refine NumsAt.far ?_ (fun k hk => by have := hgz k hk; simp; omega) _) | (apply NumsAt.drewN) | (apply NumsAt.drew)))), fun k hk => by have := hgz k hk; omega⟩), (by exact below_)⟩
            · skip
              obtain ⟨F1, F2⟩ := ps_fin HW.out HA.out (c := 100) (b := inB n0 0 n1) (by show (if (100 : UInt8) = 114 ∨ (100 : UInt8) = 102 then dirOk n0 n1 else if (100 : UInt8) = 97 ∨ (100 : UInt8) = 100 then inB n1 1 100 && inB n0 0 n1 else false) = _; rw [if_neg (by decide), if_pos (by decide), hv, Bool.true_and])
              have HF := Lib.hid (And.intro F1 F2)
              clear F1 F2
              go_upto_region 27 with fail
              refine wp_region_noPanic ?_
              refine wp_region_held_drew (S := fun w' => w'.cell? ⟨w.heap.size + 2, 0, none⟩ = some (.int .u8 ((100 : UInt8)).toNat) ∧ w'.cell? ⟨w.heap.size + 2, 1, none⟩ = some (.slice (some ⟨g, 0, none⟩) 2 cap) ∧ w'.cell? ⟨g, 0, none⟩ = some (.int .i64 n0) ∧ w'.cell? ⟨g, 1, none⟩ = some (.int .i64 n1) ∧ w'.cell? ⟨g, 1, none⟩ = some (.int .i64 n1)) (by kernel_rfl) ?_ (fun hHeld => ?_)
              · (try dsimp only)
                (first | exact hHeld | (exact ⟨(far2 (by omega)).trans p0, (far2 (by omega)).trans p1, (far2 (by omega)).trans e0, (far2 (by omega)).trans e1, (far2 (by omega)).trans e1⟩) | (exact ⟨p0, p1, e0, e1, e1⟩))
              refine wpAnyH_take (i := 0) (v := ?vq92) (by simp; rfl) (by kernel_rfl) (by kernel_rfl) (by kernel_rfl) (fun _ _ _ h => h) (Or.inl ⟨by rfl, ?yq92⟩) (by assumption) ?rq92
              case yq92 => (intro w' hSw; obtain ⟨s0, s1, s3, s4, s5⟩ := hSw; (try dsimp only at s0 s1 s3 s4 s5); go_simp; first | done | with_reducible rfl)
              (try simp only [Act.put, List.setIfInBounds_toArray, List.set_cons_zero, List.set_cons_succ])
              refine wpAnyH_take (i := 1) (v := ?vq93) (by simp; rfl) (by kernel_rfl) (by kernel_rfl) (by kernel_rfl) (fun _ _ _ h => h) (Or.inl ⟨by rfl, ?yq93⟩) (by assumption) ?rq93
              case yq93 => (intro w' hSw; obtain ⟨s0, s1, s3, s4, s5⟩ := hSw; (try dsimp only at s0 s1 s3 s4 s5); go_simp; first | done | with_reducible rfl)
              (try simp only [Act.put, List.setIfInBounds_toArray, List.set_cons_zero, List.set_cons_succ])
              refine wpAnyH_take (i := 2) (v := ?vq94) (by simp; rfl) (by kernel_rfl) (by kernel_rfl) (by kernel_rfl) (fun _ _ _ h => h) (Or.inl ⟨by rfl, ?yq94⟩) (by assumption) ?rq94
              case yq94 => (intro w' hSw; obtain ⟨s0, s1, s3, s4, s5⟩ := hSw; (try dsimp only at s0 s1 s3 s4 s5); go_simp; first | done | with_reducible rfl)
              (try simp only [Act.put, List.setIfInBounds_toArray, List.set_cons_zero, List.set_cons_succ])
              refine wpAnyH_take (i := 3) (v := ?vq95) (by simp; rfl) (by kernel_rfl) (by kernel_rfl) (by kernel_rfl) (fun _ _ _ h => h) (Or.inl ⟨by rfl, ?yq95⟩) (by assumption) ?rq95
              case yq95 => (intro w' hSw; obtain ⟨s0, s1, s3, s4, s5⟩ := hSw; (try dsimp only at s0 s1 s3 s4 s5); go_simp; first | done | with_reducible rfl)
              (try simp only [Act.put, List.setIfInBounds_toArray, List.set_cons_zero, List.set_cons_succ])
              refine wpAnyH_take (i := 4) (v := ?vq96) (by simp; rfl) (by kernel_rfl) (by kernel_rfl) (by kernel_rfl) (fun _ _ _ h => h) (Or.inl ⟨by rfl, ?yq96⟩) (by assumption) ?rq96
              case yq96 => (intro w' hSw; obtain ⟨s0, s1, s3, s4, s5⟩ := hSw; (try dsimp only at s0 s1 s3 s4 s5); go_simp; first | done | with_reducible rfl)
              (try simp only [Act.put, List.setIfInBounds_toArray, List.set_cons_zero, List.set_cons_succ])
              refine wpAnyH_take (i := 5) (v := ?vq97) (by simp; rfl) (by kernel_rfl) (by kernel_rfl) (by kernel_rfl) (fun _ _ _ h => h) (Or.inl ⟨by rfl, ?yq97⟩) (by assumption) ?rq97
              case yq97 => (intro w' hSw; obtain ⟨s0, s1, s3, s4, s5⟩ := hSw; (try dsimp only at s0 s1 s3 s4 s5); go_simp; first | done | with_reducible rfl)
              (try simp only [Act.put, List.setIfInBounds_toArray, List.set_cons_zero, List.set_cons_succ])
              refine wpAnyH_take (i := 6) (v := ?vq98) (by simp; rfl) (by kernel_rfl) (by kernel_rfl) (by kernel_rfl) (fun _ _ _ h => h) (Or.inl ⟨by rfl, ?yq98⟩) (by assumption) ?rq98
              case yq98 => (intro w' hSw; obtain ⟨s0, s1, s3, s4, s5⟩ := hSw; (try dsimp only at s0 s1 s3 s4 s5); go_simp; first | done | with_reducible rfl)
              (try simp only [Act.put, List.setIfInBounds_toArray, List.set_cons_zero, List.set_cons_succ])
              refine wpAnyH_take (i := 7) (v := ?vq99) (by simp; rfl) (by kernel_rfl) (by kernel_rfl) (by kernel_rfl) (fun _ _ _ h => h) (Or.inl ⟨by rfl, ?yq99⟩) (by assumption) ?rq99
              case yq99 => (intro w' hSw; obtain ⟨s0, s1, s3, s4, s5⟩ := hSw; (try dsimp only at s0 s1 s3 s4 s5); go_simp; first | done | with_reducible rfl)
              (try simp only [Act.put, List.setIfInBounds_toArray, List.set_cons_zero, List.set_cons_succ])
              refine wpAnyH_ready (rs := [8]) (by kernel_rfl) (by simp) ?_
              refine AllReadyH.cons (by simp; rfl) (fun K hK => ?_) AllReadyH.nil
              go_simp
              (first | (go_at_call 70; refine (l6in_t _ _ _ _ (by assumption)).mono ?_; rintro e w1 ⟨rfl, rfl⟩) | (go_at_call 70; refine (l6in_any _ _ _ _).mono ?_; rintro e w1 ⟨rfl, rfl⟩))
              refine hK.out _ _ ?_ (fun hHeld => ?_)
              · (try dsimp only)
                (first | exact hHeld | (exact ⟨(far2 (by omega)).trans p0, (far2 (by omega)).trans p1, (far2 (by omega)).trans e0, (far2 (by omega)).trans e1, (far2 (by omega)).trans e1⟩) | (exact ⟨p0, p1, e0, e1, e1⟩))
              clear hK K
              (try simp only [Act.put, List.setIfInBounds_toArray, List.set_cons_zero, List.set_cons_succ])
              refine wpAnyH_take (i := 9) (v := ?vq101) (by simp; rfl) (by kernel_rfl) (by kernel_rfl) (by kernel_rfl) (fun _ _ _ h => h) (Or.inl ⟨by rfl, ?yq101⟩) (by assumption) ?rq101
              case yq101 => (intro w' hSw; obtain ⟨s0, s1, s3, s4, s5⟩ := hSw; (try dsimp only at s0 s1 s3 s4 s5); go_simp; first | done | with_reducible rfl)
              (try simp only [Act.put, List.setIfInBounds_toArray, List.set_cons_zero, List.set_cons_succ])
              refine wpAnyH_take (i := 10) (v := ?vq102) (by simp; rfl) (by kernel_rfl) (by kernel_rfl) (by kernel_rfl) (fun _ _ _ h => h) (Or.inl ⟨by rfl, ?yq102⟩) (by assumption) ?rq102
              case yq102 => (intro w' hSw; obtain ⟨s0, s1, s3, s4, s5⟩ := hSw; (try dsimp only at s0 s1 s3 s4 s5); go_simp; first | done | with_reducible rfl)
              (try simp only [Act.put, List.setIfInBounds_toArray, List.set_cons_zero, List.set_cons_succ])
              refine wpAnyH_take (i := 11) (v := ?vq103) (by simp; rfl) (by kernel_rfl) (by kernel_rfl) (by kernel_rfl) (fun _ _ _ h => h) (Or.inl ⟨by rfl, ?yq103⟩) (by assumption) ?rq103
              case yq103 => (intro w' hSw; obtain ⟨s0, s1, s3, s4, s5⟩ := hSw; (try dsimp only at s0 s1 s3 s4 s5); go_simp; first | done | with_reducible rfl)
              (try simp only [Act.put, List.setIfInBounds_toArray, List.set_cons_zero, List.set_cons_succ])
              refine wpAnyH_take (i := 12) (v := ?vq104) (by simp; rfl) (by kernel_rfl) (by kernel_rfl) (by kernel_rfl) (fun _ _ _ h => h) (Or.inl ⟨by rfl, ?yq104⟩) (by assumption) ?rq104
              case yq104 => (intro w' hSw; obtain ⟨s0, s1, s3, s4, s5⟩ := hSw; (try dsimp only at s0 s1 s3 s4 s5); go_simp; first | done | with_reducible rfl)
              (try simp only [Act.put, List.setIfInBounds_toArray, List.set_cons_zero, List.set_cons_succ])
              refine wpAnyH_take (i := 13) (v := ?vq105) (by simp; rfl) (by kernel_rfl) (by kernel_rfl) (by kernel_rfl) (fun _ _ _ h => h) (Or.inl ⟨by rfl, ?yq105⟩) (by assumption) ?rq105
              case yq105 => (intro w' hSw; obtain ⟨s0, s1, s3, s4, s5⟩ := hSw; (try dsimp only at s0 s1 s3 s4 s5); go_simp; first | done | with_reducible rfl)
              (try simp only [Act.put, List.setIfInBounds_toArray, List.set_cons_zero, List.set_cons_succ])
              refine wpAnyH_take (i := 14) (v := ?vq106) (by simp; rfl) (by kernel_rfl) (by kernel_rfl) (by kernel_rfl) (fun _ _ _ h => h) (Or.inl ⟨by rfl, ?yq106⟩) (by assumption) ?rq106
              case yq106 => (intro w' hSw; obtain ⟨s0, s1, s3, s4, s5⟩ := hSw; (try dsimp only at s0 s1 s3 s4 s5); go_simp; first | done | with_reducible rfl)
              (try simp only [Act.put, List.setIfInBounds_toArray, List.set_cons_zero, List.set_cons_succ])
              refine wpAnyH_take (i := 15) (v := ?vq107) (by simp; rfl) (by kernel_rfl) (by kernel_rfl) (by kernel_rfl) (fun _ _ _ h => h) (Or.inl ⟨by rfl, ?yq107⟩) (by assumption) ?rq107
              case yq107 => (intro w' hSw; obtain ⟨s0, s1, s3, s4, s5⟩ := hSw; (try dsimp only at s0 s1 s3 s4 s5); go_simp; first | done | with_reducible rfl)
              (try simp only [Act.put, List.setIfInBounds_toArray, List.set_cons_zero, List.set_cons_succ])
              refine wpAnyH_take (i := 16) (v := ?vq108) (by simp; rfl) (by kernel_rfl) (by kernel_rfl) (by kernel_rfl) (fun _ _ _ h => h) (Or.inl ⟨by rfl, ?yq108⟩) (by assumption) ?rq108
              case yq108 => (intro w' hSw; obtain ⟨s0, s1, s3, s4, s5⟩ := hSw; (try dsimp only at s0 s1 s3 s4 s5); go_simp; first | done | with_reducible rfl)
              (try simp only [Act.put, List.setIfInBounds_toArray, List.set_cons_zero, List.set_cons_succ])
              refine wpAnyH_take (i := 17) (v := ?vq109) (by simp; rfl) (by kernel_rfl) (by kernel_rfl) (by kernel_rfl) (fun _ _ _ h => h) (Or.inl ⟨by rfl, ?yq109⟩) (by assumption) ?rq109
              case yq109 => (intro w' hSw; obtain ⟨s0, s1, s3, s4, s5⟩ := hSw; (try dsimp only at s0 s1 s3 s4 s5); go_simp; first | done | with_reducible rfl)
              (try simp only [Act.put, List.setIfInBounds_toArray, List.set_cons_zero, List.set_cons_succ])
              refine wpAnyH_take (i := 18) (v := ?vq110) (by simp; rfl) (by kernel_rfl) (by kernel_rfl) (by kernel_rfl) (fun _ _ _ h => h) (Or.inl ⟨by rfl, ?yq110⟩) (by assumption) ?rq110
              case yq110 => (intro w' hSw; obtain ⟨s0, s1, s3, s4, s5⟩ := hSw; (try dsimp only at s0 s1 s3 s4 s5); go_simp; first | done | with_reducible rfl)
              (try simp only [Act.put, List.setIfInBounds_toArray, List.set_cons_zero, List.set_cons_succ])
              refine wpAnyH_ready (rs := [19]) (by kernel_rfl) (by simp) ?_
              refine AllReadyH.cons (by simp; rfl) (fun K hK => ?_) AllReadyH.nil
              go_simp
              (first | (go_at_call 70; refine (l6in_t _ _ _ _ (by assumption)).mono ?_; rintro e w1 ⟨rfl, rfl⟩) | (go_at_call 70; refine (l6in_any _ _ _ _).mono ?_; rintro e w1 ⟨rfl, rfl⟩))
              refine hK.out _ _ ?_ (fun hHeld => ?_)
              · (try dsimp only)
                (first | exact hHeld | (exact ⟨(far2 (by omega)).trans p0, (far2 (by omega)).trans p1, (far2 (by omega)).trans e0, (far2 (by omega)).trans e1, (far2 (by omega)).trans e1⟩) | (exact ⟨p0, p1, e0, e1, e1⟩))
              clear hK K
              (try simp only [Act.put, List.setIfInBounds_toArray, List.set_cons_zero, List.set_cons_succ])
              refine wpAnyH_take (i := 20) (v := ?vq112) (by simp; rfl) (by kernel_rfl) (by kernel_rfl) (by kernel_rfl) (fun _ _ _ h => h) (Or.inl ⟨by rfl, ?yq112⟩) (by assumption) ?rq112
              case yq112 => (intro w' hSw; obtain ⟨s0, s1, s3, s4, s5⟩ := hSw; (try dsimp only at s0 s1 s3 s4 s5); go_simp; first | done | with_reducible rfl)
              (try simp only [Act.put, List.setIfInBounds_toArray, List.set_cons_zero, List.set_cons_succ])
              refine wpAnyH_ready (rs := [21]) (by kernel_rfl) (by simp) ?_
              refine AllReadyH.cons (by simp; rfl) (fun K hK => ?_) AllReadyH.nil
              go_simp
              go_wp2
              refine hK.out _ _ ?_ (fun hHeld => ?_)
              · (try dsimp only)
                (first | exact hHeld | (exact ⟨(far2 (by omega)).trans p0, (far2 (by omega)).trans p1, (far2 (by omega)).trans e0, (far2 (by omega)).trans e1, (far2 (by omega)).trans e1⟩) | (exact ⟨p0, p1, e0, e1, e1⟩))
              clear hK K
              (try simp only [Act.put, List.setIfInBounds_toArray, List.set_cons_zero, List.set_cons_succ])
              refine wpAnyH_take (i := 22) (v := ?vq114) (by simp; rfl) (by kernel_rfl) (by kernel_rfl) (by kernel_rfl) (fun _ _ _ h => h) (Or.inl ⟨by rfl, ?yq114⟩) (by assumption) ?rq114
              case yq114 => (intro w' hSw; obtain ⟨s0, s1, s3, s4, s5⟩ := hSw; (try dsimp only at s0 s1 s3 s4 s5); go_simp; first | done | with_reducible rfl)
              (try simp only [Act.put, List.setIfInBounds_toArray, List.set_cons_zero, List.set_cons_succ])
              refine wpAnyH_done (by kernel_rfl) ?_ _
              refine NoPanic.normal ?_
              go_wp2
              all_goals exact bodyPost_ret (v := .tuple #[.agg #[.int .u8 100, .slice (some ⟨g, 0, none⟩) 2 cap], .bool (inB n0 0 n1)]) (by simp [results, Tryz.results126, go_sem, *]) rfl ⟨_, _, _, _, (by rw [HF.out.1]), (fun x hx => by
                obtain rfl := HF.out.2 x hx
                exact ⟨rfl, (by (repeat' (first | exact hnm | (refine NumsAt.far ?_ (fun k hk => by have := hgz k hk; simp; omega) _) | (apply NumsAt.drewN) | (apply NumsAt.drew)))), fun k hk => by have := hgz k hk; omega⟩), (by exact below_)⟩
          have hc1 : ((c.toNat : Int) == 114) = false := u8_ne h114
          have hc2 : ((c.toNat : Int) == 102) = false := u8_ne h102
          have hc3 : ((c.toNat : Int) == 97) = false := u8_ne h97
          have hc4 : ((c.toNat : Int) == 100) = false := u8_ne h100
          obtain ⟨F1, F2⟩ := ps_fin HW.out HA.out (c := c) (b := false) (by show (if c = 114 ∨ c = 102 then dirOk n0 n1 else if c = 97 ∨ c = 100 then inB n1 1 100 && inB n0 0 n1 else false) = _; rw [if_neg (fun hh => hh.elim h114 h102), if_neg (fun hh => hh.elim h97 h100)])
          have HF := Lib.hid (And.intro F1 F2)
          clear F1 F2
          obtain ⟨A, cap2, rfl⟩ : ∃ A cap, v = .slice A 2 cap := hR.n.slice
          obtain ⟨⟨p0, p1⟩, f0, f1⟩ := blk_ps hR.p
          obtain ⟨⟨r0, r1⟩, g0, g1⟩ := blk_ps hR.r
          have hBw := hR.B
          have hzz : w.heap.size < wr.heap.size := blk_lt hR.r
          clear hR
          go_wp2
          all_goals exact bodyPost_ret (v := .tuple #[.agg #[.int .u8 c.toNat, .slice A 2 cap2], .bool false]) (by simp [results, Tryz.results126, go_sem, *]) rfl ⟨_, _, _, _, (by rw [HF.out.1]), (fun x hx => by have := HF.out.1; rw [hx] at this; cases this), (by exact below_)⟩
        · have hf : pcOk c ns = false := pc_len2 h3 hn3
          obtain ⟨F1, F2⟩ := ps_fin HW.out HA.out (c := c) (b := false) (by exact hf)
          have HF := Lib.hid (And.intro F1 F2)
          clear F1 F2
          obtain ⟨A, cap2, rfl⟩ := hR.n.slice
          obtain ⟨⟨p0, p1⟩, f0, f1⟩ := blk_ps hR.p
          obtain ⟨⟨r0, r1⟩, g0, g1⟩ := blk_ps hR.r
          have hBw := hR.B
          have hzz : w.heap.size < wr.heap.size := blk_lt hR.r
          clear hR
          have hq : ((ns.length : Int) != 2) = true := by simp; omega
          have hq2 : ((ns.length : Int) == 2) = false := by simp; omega
          by_cases h114 : c = 114
          · subst h114
            go_wp2
            all_goals exact bodyPost_ret (v := .tuple #[.agg #[.int .u8 114, .slice A ns.length cap2], .bool false]) (by simp [results, Tryz.results126, go_sem, *]) rfl ⟨_, _, _, _, (by rw [HF.out.1]), (fun x hx => by have := HF.out.1; rw [hx] at this; cases this), (by exact below_)⟩
          by_cases h102 : c = 102
          · subst h102
            go_wp2
            all_goals exact bodyPost_ret (v := .tuple #[.agg #[.int .u8 102, .slice A ns.length cap2], .bool false]) (by simp [results, Tryz.results126, go_sem, *]) rfl ⟨_, _, _, _, (by rw [HF.out.1]), (fun x hx => by have := HF.out.1; rw [hx] at this; cases this), (by exact below_)⟩
          by_cases h97 : c = 97
          · subst h97
            go_upto_region 27 with fail
            refine wp_region_noPanic ?_
            refine wp_region_held_drew (S := fun w' => w'.cell? ⟨w.heap.size + 2, 0, none⟩ = some (.int .u8 ((97 : UInt8)).toNat) ∧ w'.cell? ⟨w.heap.size + 2, 1, none⟩ = some (.slice A ns.length cap2)) (by kernel_rfl) ?_ (fun hHeld => ?_)
            · (try dsimp only)
              (first | exact hHeld | (exact ⟨(far2 (by omega)).trans p0, (far2 (by omega)).trans p1⟩) | (exact ⟨p0, p1⟩))
            refine wpAnyH_take (i := 0) (v := ?vq115) (by simp; rfl) (by kernel_rfl) (by kernel_rfl) (by kernel_rfl) (fun _ _ _ h => h) (Or.inl ⟨by rfl, ?yq115⟩) (by assumption) ?rq115
            case yq115 => (intro w' hSw; obtain ⟨s0, s1⟩ := hSw; (try dsimp only at s0 s1); go_simp; first | done | with_reducible rfl | (simp only [hq2]; done) | (rw [hq2]; done) | (simp [hq2]; done) | omega)
            (try simp only [Act.put, List.setIfInBounds_toArray, List.set_cons_zero, List.set_cons_succ])
            (try simp only [hq2])
            refine wpAnyH_take (i := 1) (v := ?vq116) (by simp; rfl) (by kernel_rfl) (by kernel_rfl) (by kernel_rfl) (fun _ _ _ h => h) (Or.inl ⟨by rfl, ?yq116⟩) (by assumption) ?rq116
            case yq116 => (intro w' hSw; obtain ⟨s0, s1⟩ := hSw; (try dsimp only at s0 s1); go_simp; first | done | with_reducible rfl | (simp only [hq2]; done) | (rw [hq2]; done) | (simp [hq2]; done) | omega)
            (try simp only [Act.put, List.setIfInBounds_toArray, List.set_cons_zero, List.set_cons_succ])
            (try simp only [hq2])
            refine wpAnyH_take (i := 2) (v := .bool false) (by simp; rfl) (by kernel_rfl) (by kernel_rfl) (by kernel_rfl) (fun _ _ _ h => h) (Or.inl ⟨by rfl, ?yq117⟩) (by assumption) ?rq117
            case yq117 => (intro w' hSw; obtain ⟨s0, s1⟩ := hSw; (try dsimp only at s0 s1); go_simp; first | done | with_reducible rfl | (simp only [hq2]; done) | (rw [hq2]; done) | (simp [hq2]; done) | omega)
            (try simp only [Act.put, List.setIfInBounds_toArray, List.set_cons_zero, List.set_cons_succ])
            (try simp only [hq2])
            refine wpAnyH_take (i := 3) (v := ?vq118) (by simp; rfl) (by kernel_rfl) (by kernel_rfl) (by kernel_rfl) (fun _ _ _ h => h) (Or.inl ⟨by rfl, ?yq118⟩) (by assumption) ?rq118
            case yq118 => (intro w' hSw; obtain ⟨s0, s1⟩ := hSw; (try dsimp only at s0 s1); go_simp; first | done | with_reducible rfl | (simp only [hq2]; done) | (rw [hq2]; done) | (simp [hq2]; done) | omega)
            (try simp only [Act.put, List.setIfInBounds_toArray, List.set_cons_zero, List.set_cons_succ])
            (try simp only [hq2])
            refine wpAnyH_take (i := 4) (v := undef) (by simp; rfl) (by kernel_rfl) (by kernel_rfl) (by kernel_rfl) (fun _ _ _ h => h) (Or.inr ⟨by rfl, rfl⟩) (by assumption) ?_
            (try simp only [Act.put, List.setIfInBounds_toArray, List.set_cons_zero, List.set_cons_succ])
            (try simp only [hq2])
            refine wpAnyH_take (i := 5) (v := undef) (by simp; rfl) (by kernel_rfl) (by kernel_rfl) (by kernel_rfl) (fun _ _ _ h => h) (Or.inr ⟨by rfl, rfl⟩) (by assumption) ?_
            (try simp only [Act.put, List.setIfInBounds_toArray, List.set_cons_zero, List.set_cons_succ])
            (try simp only [hq2])
            refine wpAnyH_take (i := 6) (v := undef) (by simp; rfl) (by kernel_rfl) (by kernel_rfl) (by kernel_rfl) (fun _ _ _ h => h) (Or.inr ⟨by rfl, rfl⟩) (by assumption) ?_
            (try simp only [Act.put, List.setIfInBounds_toArray, List.set_cons_zero, List.set_cons_succ])
            (try simp only [hq2])
            refine wpAnyH_take (i := 7) (v := undef) (by simp; rfl) (by kernel_rfl) (by kernel_rfl) (by kernel_rfl) (fun _ _ _ h => h) (Or.inr ⟨by rfl, rfl⟩) (by assumption) ?_
            (try simp only [Act.put, List.setIfInBounds_toArray, List.set_cons_zero, List.set_cons_succ])
            (try simp only [hq2])
            refine wpAnyH_take (i := 8) (v := undef) (by simp; rfl) (by kernel_rfl) (by kernel_rfl) (by kernel_rfl) (fun _ _ _ h => h) (Or.inr ⟨by rfl, rfl⟩) (by assumption) ?_
            (try simp only [Act.put, List.setIfInBounds_toArray, List.set_cons_zero, List.set_cons_succ])
            (try simp only [hq2])
            refine wpAnyH_take (i := 9) (v := ?vq124) (by simp; rfl) (by kernel_rfl) (by kernel_rfl) (by kernel_rfl) (fun _ _ _ h => h) (Or.inl ⟨by rfl, ?yq124⟩) (by assumption) ?rq124
            case yq124 => (intro w' hSw; obtain ⟨s0, s1⟩ := hSw; (try dsimp only at s0 s1); go_simp; first | done | with_reducible rfl | (simp only [hq2]; done) | (rw [hq2]; done) | (simp [hq2]; done) | omega)
            (try simp only [Act.put, List.setIfInBounds_toArray, List.set_cons_zero, List.set_cons_succ])
            (try simp only [hq2])
            refine wpAnyH_take (i := 10) (v := ?vq125) (by simp; rfl) (by kernel_rfl) (by kernel_rfl) (by kernel_rfl) (fun _ _ _ h => h) (Or.inl ⟨by rfl, ?yq125⟩) (by assumption) ?rq125
            case yq125 => (intro w' hSw; obtain ⟨s0, s1⟩ := hSw; (try dsimp only at s0 s1); go_simp; first | done | with_reducible rfl | (simp only [hq2]; done) | (rw [hq2]; done) | (simp [hq2]; done) | omega)
            (try simp only [Act.put, List.setIfInBounds_toArray, List.set_cons_zero, List.set_cons_succ])
            (try simp only [hq2])
            refine wpAnyH_take (i := 11) (v := undef) (by simp; rfl) (by kernel_rfl) (by kernel_rfl) (by kernel_rfl) (fun _ _ _ h => h) (Or.inr ⟨by rfl, rfl⟩) (by assumption) ?_
            (try simp only [Act.put, List.setIfInBounds_toArray, List.set_cons_zero, List.set_cons_succ])
            (try simp only [hq2])
            refine wpAnyH_take (i := 12) (v := undef) (by simp; rfl) (by kernel_rfl) (by kernel_rfl) (by kernel_rfl) (fun _ _ _ h => h) (Or.inr ⟨by rfl, rfl⟩) (by assumption) ?_
            (try simp only [Act.put, List.setIfInBounds_toArray, List.set_cons_zero, List.set_cons_succ])
            (try simp only [hq2])
            refine wpAnyH_take (i := 13) (v := undef) (by simp; rfl) (by kernel_rfl) (by kernel_rfl) (by kernel_rfl) (fun _ _ _ h => h) (Or.inr ⟨by rfl, rfl⟩) (by assumption) ?_
            (try simp only [Act.put, List.setIfInBounds_toArray, List.set_cons_zero, List.set_cons_succ])
            (try simp only [hq2])
            refine wpAnyH_take (i := 14) (v := undef) (by simp; rfl) (by kernel_rfl) (by kernel_rfl) (by kernel_rfl) (fun _ _ _ h => h) (Or.inr ⟨by rfl, rfl⟩) (by assumption) ?_
            (try simp only [Act.put, List.setIfInBounds_toArray, List.set_cons_zero, List.set_cons_succ])
            (try simp only [hq2])
            refine wpAnyH_take (i := 15) (v := undef) (by simp; rfl) (by kernel_rfl) (by kernel_rfl) (by kernel_rfl) (fun _ _ _ h => h) (Or.inr ⟨by rfl, rfl⟩) (by assumption) ?_
            (try simp only [Act.put, List.setIfInBounds_toArray, List.set_cons_zero, List.set_cons_succ])
            (try simp only [hq2])
            refine wpAnyH_take (i := 16) (v := undef) (by simp; rfl) (by kernel_rfl) (by kernel_rfl) (by kernel_rfl) (fun _ _ _ h => h) (Or.inr ⟨by rfl, rfl⟩) (by assumption) ?_
            (try simp only [Act.put, List.setIfInBounds_toArray, List.set_cons_zero, List.set_cons_succ])
            (try simp only [hq2])
            refine wpAnyH_take (i := 17) (v := undef) (by simp; rfl) (by kernel_rfl) (by kernel_rfl) (by kernel_rfl) (fun _ _ _ h => h) (Or.inr ⟨by rfl, rfl⟩) (by assumption) ?_
            (try simp only [Act.put, List.setIfInBounds_toArray, List.set_cons_zero, List.set_cons_succ])
            (try simp only [hq2])
            refine wpAnyH_take (i := 18) (v := undef) (by simp; rfl) (by kernel_rfl) (by kernel_rfl) (by kernel_rfl) (fun _ _ _ h => h) (Or.inr ⟨by rfl, rfl⟩) (by assumption) ?_
            (try simp only [Act.put, List.setIfInBounds_toArray, List.set_cons_zero, List.set_cons_succ])
            (try simp only [hq2])
            refine wpAnyH_take (i := 19) (v := undef) (by simp; rfl) (by kernel_rfl) (by kernel_rfl) (by kernel_rfl) (fun _ _ _ h => h) (Or.inr ⟨by rfl, rfl⟩) (by assumption) ?_
            (try simp only [Act.put, List.setIfInBounds_toArray, List.set_cons_zero, List.set_cons_succ])
            (try simp only [hq2])
            refine wpAnyH_take (i := 20) (v := ?vq135) (by simp; rfl) (by kernel_rfl) (by kernel_rfl) (by kernel_rfl) (fun _ _ _ h => h) (Or.inl ⟨by rfl, ?yq135⟩) (by assumption) ?rq135
            case yq135 => (intro w' hSw; obtain ⟨s0, s1⟩ := hSw; (try dsimp only at s0 s1); go_simp; first | done | with_reducible rfl | (simp only [hq2]; done) | (rw [hq2]; done) | (simp [hq2]; done) | omega)
            (try simp only [Act.put, List.setIfInBounds_toArray, List.set_cons_zero, List.set_cons_succ])
            (try simp only [hq2])
            refine wpAnyH_ready (rs := [21]) (by kernel_rfl) (by simp) ?_
            refine AllReadyH.cons (by simp; rfl) (fun K hK => ?_) AllReadyH.nil
            go_simp
            go_wp2
            refine hK.out _ _ ?_ (fun hHeld => ?_)
            · (try dsimp only)
              (first | exact hHeld | (exact ⟨(far2 (by omega)).trans p0, (far2 (by omega)).trans p1⟩) | (exact ⟨p0, p1⟩))
            clear hK K
            (try simp only [Act.put, List.setIfInBounds_toArray, List.set_cons_zero, List.set_cons_succ])
            (try simp only [hq2])
            refine wpAnyH_take (i := 22) (v := ?vq137) (by simp; rfl) (by kernel_rfl) (by kernel_rfl) (by kernel_rfl) (fun _ _ _ h => h) (Or.inl ⟨by rfl, ?yq137⟩) (by assumption) ?rq137
            case yq137 => (intro w' hSw; obtain ⟨s0, s1⟩ := hSw; (try dsimp only at s0 s1); go_simp; first | done | with_reducible rfl | (simp only [hq2]; done) | (rw [hq2]; done) | (simp [hq2]; done) | omega)
            (try simp only [Act.put, List.setIfInBounds_toArray, List.set_cons_zero, List.set_cons_succ])
            (try simp only [hq2])
            refine wpAnyH_done (by kernel_rfl) ?_ _
            refine NoPanic.normal ?_
            go_wp2
            all_goals exact bodyPost_ret (v := .tuple #[.agg #[.int .u8 97, .slice A ns.length cap2], .bool false]) (by simp [results, Tryz.results126, go_sem, *]) rfl ⟨_, _, _, _, (by rw [HF.out.1]), (fun x hx => by have := HF.out.1; rw [hx] at this; cases this), (by exact below_)⟩
          by_cases h100 : c = 100
          · subst h100
            go_upto_region 27 with fail
            refine wp_region_noPanic ?_
            refine wp_region_held_drew (S := fun w' => w'.cell? ⟨w.heap.size + 2, 0, none⟩ = some (.int .u8 ((100 : UInt8)).toNat) ∧ w'.cell? ⟨w.heap.size + 2, 1, none⟩ = some (.slice A ns.length cap2)) (by kernel_rfl) ?_ (fun hHeld => ?_)
            · (try dsimp only)
              (first | exact hHeld | (exact ⟨(far2 (by omega)).trans p0, (far2 (by omega)).trans p1⟩) | (exact ⟨p0, p1⟩))
            refine wpAnyH_take (i := 0) (v := ?vq138) (by simp; rfl) (by kernel_rfl) (by kernel_rfl) (by kernel_rfl) (fun _ _ _ h => h) (Or.inl ⟨by rfl, ?yq138⟩) (by assumption) ?rq138
            case yq138 => (intro w' hSw; obtain ⟨s0, s1⟩ := hSw; (try dsimp only at s0 s1); go_simp; first | done | with_reducible rfl | (simp only [hq2]; done) | (rw [hq2]; done) | (simp [hq2]; done) | omega)
            (try simp only [Act.put, List.setIfInBounds_toArray, List.set_cons_zero, List.set_cons_succ])
            (try simp only [hq2])
            refine wpAnyH_take (i := 1) (v := ?vq139) (by simp; rfl) (by kernel_rfl) (by kernel_rfl) (by kernel_rfl) (fun _ _ _ h => h) (Or.inl ⟨by rfl, ?yq139⟩) (by assumption) ?rq139
            case yq139 => (intro w' hSw; obtain ⟨s0, s1⟩ := hSw; (try dsimp only at s0 s1); go_simp; first | done | with_reducible rfl | (simp only [hq2]; done) | (rw [hq2]; done) | (simp [hq2]; done) | omega)
            (try simp only [Act.put, List.setIfInBounds_toArray, List.set_cons_zero, List.set_cons_succ])
            (try simp only [hq2])
            refine wpAnyH_take (i := 2) (v := .bool false) (by simp; rfl) (by kernel_rfl) (by kernel_rfl) (by kernel_rfl) (fun _ _ _ h => h) (Or.inl ⟨by rfl, ?yq140⟩) (by assumption) ?rq140
            case yq140 => (intro w' hSw; obtain ⟨s0, s1⟩ := hSw; (try dsimp only at s0 s1); go_simp; first | done | with_reducible rfl | (simp only [hq2]; done) | (rw [hq2]; done) | (simp [hq2]; done) | omega)
            (try simp only [Act.put, List.setIfInBounds_toArray, List.set_cons_zero, List.set_cons_succ])
            (try simp only [hq2])
            refine wpAnyH_take (i := 3) (v := ?vq141) (by simp; rfl) (by kernel_rfl) (by kernel_rfl) (by kernel_rfl) (fun _ _ _ h => h) (Or.inl ⟨by rfl, ?yq141⟩) (by assumption) ?rq141
            case yq141 => (intro w' hSw; obtain ⟨s0, s1⟩ := hSw; (try dsimp only at s0 s1); go_simp; first | done | with_reducible rfl | (simp only [hq2]; done) | (rw [hq2]; done) | (simp [hq2]; done) | omega)
            (try simp only [Act.put, List.setIfInBounds_toArray, List.set_cons_zero, List.set_cons_succ])
            (try simp only [hq2])
            refine wpAnyH_take (i := 4) (v := undef) (by simp; rfl) (by kernel_rfl) (by kernel_rfl) (by kernel_rfl) (fun _ _ _ h => h) (Or.inr ⟨by rfl, rfl⟩) (by assumption) ?_
            (try simp only [Act.put, List.setIfInBounds_toArray, List.set_cons_zero, List.set_cons_succ])
            (try simp only [hq2])
            refine wpAnyH_take (i := 5) (v := undef) (by simp; rfl) (by kernel_rfl) (by kernel_rfl) (by kernel_rfl) (fun _ _ _ h => h) (Or.inr ⟨by rfl, rfl⟩) (by assumption) ?_
            (try simp only [Act.put, List.setIfInBounds_toArray, List.set_cons_zero, List.set_cons_succ])
            (try simp only [hq2])
            refine wpAnyH_take (i := 6) (v := undef) (by simp; rfl) (by kernel_rfl) (by kernel_rfl) (by kernel_rfl) (fun _ _ _ h => h) (Or.inr ⟨by rfl, rfl⟩) (by assumption) ?_
            (try simp only [Act.put, List.setIfInBounds_toArray, List.set_cons_zero, List.set_cons_succ])
            (try simp only [hq2])
            refine wpAnyH_take (i := 7) (v := undef) (by simp; rfl) (by kernel_rfl) (by kernel_rfl) (by kernel_rfl) (fun _ _ _ h => h) (Or.inr ⟨by rfl, rfl⟩) (by assumption) ?_
            (try simp only [Act.put, List.setIfInBounds_toArray, List.set_cons_zero, List.set_cons_succ])
            (try simp only [hq2])
            refine wpAnyH_take (i := 8) (v := undef) (by simp; rfl) (by kernel_rfl) (by kernel_rfl) (by kernel_rfl) (fun _ _ _ h => h) (Or.inr ⟨by rfl, rfl⟩) (by assumption) ?_
            (try simp only [Act.put, List.setIfInBounds_toArray, List.set_cons_zero, List.set_cons_succ])
            (try simp only [hq2])
            refine wpAnyH_take (i := 9) (v := ?vq147) (by simp; rfl) (by kernel_rfl) (by kernel_rfl) (by kernel_rfl) (fun _ _ _ h => h) (Or.inl ⟨by rfl, ?yq147⟩) (by assumption) ?rq147
            case yq147 => (intro w' hSw; obtain ⟨s0, s1⟩ := hSw; (try dsimp only at s0 s1); go_simp; first | done | with_reducible rfl | (simp only [hq2]; done) | (rw [hq2]; done) | (simp [hq2]; done) | omega)
            (try simp only [Act.put, List.setIfInBounds_toArray, List.set_cons_zero, List.set_cons_succ])
            (try simp only [hq2])
            refine wpAnyH_take (i := 10) (v := ?vq148) (by simp; rfl) (by kernel_rfl) (by kernel_rfl) (by kernel_rfl) (fun _ _ _ h => h) (Or.inl ⟨by rfl, ?yq148⟩) (by assumption) ?rq148
            case yq148 => (intro w' hSw; obtain ⟨s0, s1⟩ := hSw; (try dsimp only at s0 s1); go_simp; first | done | with_reducible rfl | (simp only [hq2]; done) | (rw [hq2]; done) | (simp [hq2]; done) | omega)
            (try simp only [Act.put, List.setIfInBounds_toArray, List.set_cons_zero, List.set_cons_succ])
            (try simp only [hq2])
            refine wpAnyH_take (i := 11) (v := undef) (by simp; rfl) (by kernel_rfl) (by kernel_rfl) (by kernel_rfl) (fun _ _ _ h => h) (Or.inr ⟨by rfl, rfl⟩) (by assumption) ?_
            (try simp only [Act.put, List.setIfInBounds_toArray, List.set_cons_zero, List.set_cons_succ])
            (try simp only [hq2])
            refine wpAnyH_take (i := 12) (v := undef) (by simp; rfl) (by kernel_rfl) (by kernel_rfl) (by kernel_rfl) (fun _ _ _ h => h) (Or.inr ⟨by rfl, rfl⟩) (by assumption) ?_
            (try simp only [Act.put, List.setIfInBounds_toArray, List.set_cons_zero, List.set_cons_succ])
            (try simp only [hq2])
            refine wpAnyH_take (i := 13) (v := undef) (by simp; rfl) (by kernel_rfl) (by kernel_rfl) (by kernel_rfl) (fun _ _ _ h => h) (Or.inr ⟨by rfl, rfl⟩) (by assumption) ?_
            (try simp only [Act.put, List.setIfInBounds_toArray, List.set_cons_zero, List.set_cons_succ])
            (try simp only [hq2])
            refine wpAnyH_take (i := 14) (v := undef) (by simp; rfl) (by kernel_rfl) (by kernel_rfl) (by kernel_rfl) (fun _ _ _ h => h) (Or.inr ⟨by rfl, rfl⟩) (by assumption) ?_
            (try simp only [Act.put, List.setIfInBounds_toArray, List.set_cons_zero, List.set_cons_succ])
            (try simp only [hq2])
            refine wpAnyH_take (i := 15) (v := undef) (by simp; rfl) (by kernel_rfl) (by kernel_rfl) (by kernel_rfl) (fun _ _ _ h => h) (Or.inr ⟨by rfl, rfl⟩) (by assumption) ?_
            (try simp only [Act.put, List.setIfInBounds_toArray, List.set_cons_zero, List.set_cons_succ])
            (try simp only [hq2])
            refine wpAnyH_take (i := 16) (v := undef) (by simp; rfl) (by kernel_rfl) (by kernel_rfl) (by kernel_rfl) (fun _ _ _ h => h) (Or.inr ⟨by rfl, rfl⟩) (by assumption) ?_
            (try simp only [Act.put, List.setIfInBounds_toArray, List.set_cons_zero, List.set_cons_succ])
            (try simp only [hq2])
            refine wpAnyH_take (i := 17) (v := undef) (by simp; rfl) (by kernel_rfl) (by kernel_rfl) (by kernel_rfl) (fun _ _ _ h => h) (Or.inr ⟨by rfl, rfl⟩) (by assumption) ?_
            (try simp only [Act.put, List.setIfInBounds_toArray, List.set_cons_zero, List.set_cons_succ])
            (try simp only [hq2])
            refine wpAnyH_take (i := 18) (v := undef) (by simp; rfl) (by kernel_rfl) (by kernel_rfl) (by kernel_rfl) (fun _ _ _ h => h) (Or.inr ⟨by rfl, rfl⟩) (by assumption) ?_
            (try simp only [Act.put, List.setIfInBounds_toArray, List.set_cons_zero, List.set_cons_succ])
            (try simp only [hq2])
            refine wpAnyH_take (i := 19) (v := undef) (by simp; rfl) (by kernel_rfl) (by kernel_rfl) (by kernel_rfl) (fun _ _ _ h => h) (Or.inr ⟨by rfl, rfl⟩) (by assumption) ?_
            (try simp only [Act.put, List.setIfInBounds_toArray, List.set_cons_zero, List.set_cons_succ])
            (try simp only [hq2])
            refine wpAnyH_take (i := 20) (v := ?vq158) (by simp; rfl) (by kernel_rfl) (by kernel_rfl) (by kernel_rfl) (fun _ _ _ h => h) (Or.inl ⟨by rfl, ?yq158⟩) (by assumption) ?rq158
            case yq158 => (intro w' hSw; obtain ⟨s0, s1⟩ := hSw; (try dsimp only at s0 s1); go_simp; first | done | with_reducible rfl | (simp only [hq2]; done) | (rw [hq2]; done) | (simp [hq2]; done) | omega)
            (try simp only [Act.put, List.setIfInBounds_toArray, List.set_cons_zero, List.set_cons_succ])
            (try simp only [hq2])
            refine wpAnyH_ready (rs := [21]) (by kernel_rfl) (by simp) ?_
            refine AllReadyH.cons (by simp; rfl) (fun K hK => ?_) AllReadyH.nil
            go_simp
            go_wp2
            refine hK.out _ _ ?_ (fun hHeld => ?_)
            · (try dsimp only)
              (first | exact hHeld | (exact ⟨(far2 (by omega)).trans p0, (far2 (by omega)).trans p1⟩) | (exact ⟨p0, p1⟩))
            clear hK K
            (try simp only [Act.put, List.setIfInBounds_toArray, List.set_cons_zero, List.set_cons_succ])
            (try simp only [hq2])
            refine wpAnyH_take (i := 22) (v := ?vq160) (by simp; rfl) (by kernel_rfl) (by kernel_rfl) (by kernel_rfl) (fun _ _ _ h => h) (Or.inl ⟨by rfl, ?yq160⟩) (by assumption) ?rq160
            case yq160 => (intro w' hSw; obtain ⟨s0, s1⟩ := hSw; (try dsimp only at s0 s1); go_simp; first | done | with_reducible rfl | (simp only [hq2]; done) | (rw [hq2]; done) | (simp [hq2]; done) | omega)
            (try simp only [Act.put, List.setIfInBounds_toArray, List.set_cons_zero, List.set_cons_succ])
            (try simp only [hq2])
            refine wpAnyH_done (by kernel_rfl) ?_ _
            refine NoPanic.normal ?_
            go_wp2
            all_goals exact bodyPost_ret (v := .tuple #[.agg #[.int .u8 100, .slice A ns.length cap2], .bool false]) (by simp [results, Tryz.results126, go_sem, *]) rfl ⟨_, _, _, _, (by rw [HF.out.1]), (fun x hx => by have := HF.out.1; rw [hx] at this; cases this), (by exact below_)⟩
          have hc1 : ((c.toNat : Int) == 114) = false := u8_ne h114
          have hc2 : ((c.toNat : Int) == 102) = false := u8_ne h102
          have hc3 : ((c.toNat : Int) == 97) = false := u8_ne h97
          have hc4 : ((c.toNat : Int) == 100) = false := u8_ne h100
          go_wp2
          all_goals exact bodyPost_ret (v := .tuple #[.agg #[.int .u8 c.toNat, .slice A ns.length cap2], .bool false]) (by simp [results, Tryz.results126, go_sem, *]) rfl ⟨_, _, _, _, (by rw [HF.out.1]), (fun x hx => by have := HF.out.1; rw [hx] at this; cases this), (by exact below_)⟩
theorem sone_l (l : List UInt8) (w : World) (hs : l.length ≤ 1000000) :
    Calls Tryz.prog 126 #[.string ⟨l.toArray⟩] w fun e w' => ∃ kk A len cap, e = .returned (.tuple #[.agg #[.int .u8 kk, .slice A len cap], .bool (pieceS l).isSome]) ∧
      (∀ x, pieceS l = some x → kk = x.k.toNat ∧ NumsAt w' (.slice A len cap) x.ns ∧ ∀ k, (Value.slice A len cap).ownBlock = some k → w.heap.size ≤ k) ∧ Below w.heap.size w w' := by
  by_cases h : l.length < 2
  · rw [pieceS_short h]
    exact (sone_short l h w).mono fun e w' ⟨h1, h2⟩ => ⟨0, none, 0, 0, h1, (fun x (hx : none = some x) => nomatch hx), h2⟩
  · cases l with
    | nil => exact absurd (by simp) h
    | cons c r => exact sone_cons c r (by simp at h; omega) (by simp at hs; omega) w
end
end Go.Proofs.YtjbnkefeacineaaGreatDoor
