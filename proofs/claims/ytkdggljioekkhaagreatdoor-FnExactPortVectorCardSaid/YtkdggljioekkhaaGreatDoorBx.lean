/-
  The walk of the reference's reading of one number.
-/
import Derived.Test.YtkdggljioekkhaaGreatDoorBw
import Derived.Test.YtkdggljioekkhaaGreatDoorPa
namespace Go.Proofs.YtkdggljioekkhaaGreatDoor
set_option linter.unusedSimpArgs false
set_option linter.unusedVariables false
open Go.RowKit
attribute [local go_sem ↓] Go.wp_at_zero Go.wp_at_succ
/-- What the reading of a number knows at byte k. -/
def St (l : List UInt8) (k n : Nat) (sg : Int) : Prop :=
  n < 10 ^ k ∧ ((k = 0 ∧ n = 0 ∧ sg = 1) ∨ (1 ≤ k ∧ (sg = 1 ∨ sg = -1) ∧ numSL l = (Lib.decFrom n (l.drop k)).map fun m => sg * (m : Int)))
theorem St.start (l : List UInt8) : St l 0 0 1 := ⟨by decide, .inl ⟨rfl, rfl, rfl⟩⟩
theorem numSL_dig {c : UInt8} {r : List UInt8} (h : ¬ c = 45) : numSL (c :: r) = (Lib.decFrom 0 (c :: r)).map fun n => (n : Int) := by
  rw [numSL, if_neg h]
theorem St.minus {l : List UInt8} {n : Nat} {sg : Int} (h : St l 0 n sg) (h0 : l[0]? = some 45) : St l 1 n (-1) := by
  obtain ⟨_, ⟨_, rfl, _⟩ | ⟨h1, _⟩⟩ := h
  · refine ⟨by decide, .inr ⟨Nat.le_refl _, .inr rfl, ?_⟩⟩
    cases l with
    | nil => cases h0
    | cons c r =>
      obtain rfl : c = 45 := by simpa using h0
      rw [numSL, if_pos rfl]
      simp only [List.drop_succ_cons, List.drop_zero]
      cases Lib.decFrom 0 r with
      | none => rfl
      | some m => simp
  · omega
theorem St.full {l : List UInt8} {k n : Nat} {sg : Int} {c : UInt8} (h : St l k n sg) (hc : l[k]? = some c) (hm : ¬ (k = 0 ∧ c = 45)) :
    (sg = 1 ∨ sg = -1) ∧ numSL l = (Lib.decFrom n (l.drop k)).map fun m => sg * (m : Int) := by
  obtain ⟨_, ⟨rfl, rfl, rfl⟩ | ⟨h1, h2, h3⟩⟩ := h
  · refine ⟨.inl rfl, ?_⟩
    cases l with
    | nil => cases hc
    | cons d r =>
      obtain rfl : d = c := by simpa using hc
      rw [numSL_dig (fun e => hm ⟨rfl, e⟩)]
      simp only [List.drop_zero, Int.one_mul]
  · exact ⟨h2, h3⟩
theorem drop_at {l : List UInt8} {k : Nat} {c : UInt8} (hc : l[k]? = some c) : l.drop k = c :: l.drop (k + 1) := by
  obtain ⟨hk, rfl⟩ := List.getElem?_eq_some_iff.1 hc
  exact List.drop_eq_getElem_cons hk
theorem St.digit {l : List UInt8} {k n : Nat} {sg : Int} {c : UInt8} (h : St l k n sg) (hc : l[k]? = some c) (hd : 48 ≤ c.toNat ∧ c.toNat ≤ 57) : St l (k + 1) (10 * n + (c.toNat - 48)) sg := by
  have h9 := h.1
  obtain ⟨h2, h3⟩ := h.full hc (by rintro ⟨_, rfl⟩; revert hd; decide)
  refine ⟨by rw [Nat.pow_succ]; omega, .inr ⟨by omega, h2, ?_⟩⟩
  rw [h3, drop_at hc, Lib.decFrom, Lib.digitVal, if_pos hd, Nat.mul_comm]
theorem St.none {l : List UInt8} {k n : Nat} {sg : Int} {c : UInt8} (h : St l k n sg) (hc : l[k]? = some c) (hm : ¬ (k = 0 ∧ c = 45)) (hd : ¬ (48 ≤ c.toNat ∧ c.toNat ≤ 57)) : numS l = none := by
  have h3 := (h.full hc hm).2
  rw [drop_at hc, Lib.decFrom, Lib.digitVal, if_neg hd] at h3
  unfold numS
  rw [h3]
  split <;> rfl
theorem St.last {l : List UInt8} {n : Nat} {sg : Int} (h : St l l.length n sg) (h1 : 1 ≤ l.length) : (sg = 1 ∨ sg = -1) ∧ numSL l = some (sg * (n : Int)) := by
  obtain ⟨_, ⟨h0, _⟩ | ⟨_, h2, h3⟩⟩ := h
  · omega
  · exact ⟨h2, by rw [h3, List.drop_length, Lib.decFrom]; rfl⟩
theorem numS_size {l : List UInt8} (h : ¬ (1 ≤ l.length ∧ l.length ≤ 4)) : numS l = none := by
  unfold numS
  rw [if_neg (by simpa using h)]
theorem numS_end {l : List UInt8} {v : Int} (h1 : 1 ≤ l.length) (h4 : l.length ≤ 4) (h : numSL l = some v) : numS l = if Lib.itoa v = l then some v else none := by
  unfold numS
  rw [if_pos (by simp; omega), h, Option.bind_some]
theorem idx_l (l : List UInt8) (k : Nat) (c : UInt8) (hc : l[k]? = some c) (W : World) : (Instr.index 9 (.string ⟨l.toArray⟩) (.int .i64 (k : Int))).run Tryz.prog W = .ok (.int .u8 (c.toNat : Int)) W := by
  obtain ⟨hk, rfl⟩ := List.getElem?_eq_some_iff.1 hc
  rw [run_index_string W _ _ _ _ Tryz.underlying9, dif_pos ⟨by omega, by rw [Lib.size_eq]; simpa using hk⟩]
  rfl
/-- What l7Number answers. -/
def NumR (l : List UInt8) (w : World) (e : Ending) (w' : World) : Prop :=
  ∃ n ok, e = .returned (.tuple #[.int .i64 n, .bool ok]) ∧ (ok = true → numS l = some n) ∧ (ok = false → numS l = none) ∧ Below w.heap.size w w'
set_option maxRecDepth 100000 in
set_option maxHeartbeats 8000000 in
theorem snum_any (l : List UInt8) (hl : l.length ≤ 1048576) (w : World) :
    Calls Tryz.prog 111 #[.string ⟨l.toArray⟩] w fun e w' => NumR l w e w' := by
  have hsz : (⟨l.toArray⟩ : ByteArray).size = l.length := by rw [Lib.size_eq]
  by_cases h14 : 1 ≤ l.length ∧ l.length ≤ 4
  · have hin : inB l.length 1 4 = true := by rw [inB_iff]; omega
    have H14 := Lib.hid h14
    clear h14
    go_enter Tryz.func111, Tryz.ntmps111
    go_upto_region 6 with (first | (go_at_call 34; refine (l6in_t _ _ _ _ (by assumption)).mono ?_; rintro e w1 ⟨rfl, rfl⟩))
    rename World => w
    go_loopw [4, 5, 6] (fun a b i wr => ∃ (k n : Nat) (sg : Int), k ≤ l.length ∧ a = .int .i64 n ∧ b = .int .i64 sg ∧ i = .int .i64 k ∧ Hid (St l k n sg) ∧ Below w.heap.size w wr) (fun _ _ i _ => l.length - (intOf i).toNat)
    case atStart => exact ⟨0, 0, 1, Nat.zero_le _, rfl, rfl, rfl, Lib.hid (St.start l), Below.refl _ _⟩
    case round =>
      obtain ⟨k, n, sg, hk, rfl, rfl, rfl, hst, hB⟩ := hrel
      have hk4 : k ≤ 4 := by have := H14.out; omega
      have hkw : IntKind.i64.wrap ((k : Int) + 1) = (k : Int) + 1 := IntWalk.i64_in _ (by omega)
      by_cases hkl : k < l.length
      · obtain ⟨c, hc⟩ : ∃ c, l[k]? = some c := ⟨_, List.getElem?_eq_getElem hkl⟩
        have hix := idx_l l k c hc
        have HC := Lib.hid hc
        have hki : (k : Int) < l.length := by omega
        clear hc
        by_cases hA : k = 0 ∧ c = 45
        · obtain ⟨rfl, rfl⟩ := hA
          have hi0 : ∀ W : World, (Instr.index 9 (.string ⟨l.toArray⟩) (.int .i64 0)).run Tryz.prog W = .ok (.int .u8 45) W := hix
          have H1 := Lib.hid (hst.out.minus HC.out)
          clear hix hkw hin
          go_wp2
          go_roundw
          case rel => exact ⟨1, n, -1, by omega, rfl, rfl, rfl, H1, hB⟩
          case measure => simp [intOf]; omega
        · have hn : n < 1000 := by
            have h1 := hst.out.1
            have h2 : 10 ^ k ≤ 10 ^ 3 := Nat.pow_le_pow_right (by decide) (by have := H14.out; omega)
            omega
          obtain ⟨m, hm⟩ : ∃ m, c.toNat = m := ⟨_, rfl⟩
          have h45 : k = 0 → ¬ (m : Int) = 45 := fun h0 h => hA ⟨h0, by rw [← UInt8.toNat_inj, hm, show (45 : UInt8).toNat = 45 from rfl]; omega⟩
          rw [hm] at hix
          have HA := Lib.hid hA
          have HM := Lib.hid hm
          have hm2 : m < 256 := by rw [← hm]; exact c.toNat_lt
          clear hA hm hin
          by_cases hd : 48 ≤ m ∧ m ≤ 57
          · have hd1 : 48 ≤ (m : Int) := by omega
            have hd2 : (m : Int) ≤ 57 := by omega
            have e1 : IntKind.i64.wrap (10 * (n : Int)) = 10 * n := IntWalk.i64_in _ (by omega)
            have e2 : IntKind.u8.wrap ((m : Int) - 48) = (m : Int) - 48 := by
              rw [show IntKind.u8.wrap ((m : Int) - 48) = ((m : Int) - 48) % 256 from rfl]; omega
            have e3 : IntKind.i64.wrap ((m : Int) - 48) = (m : Int) - 48 := IntWalk.i64_in _ (by omega)
            have e4 : IntKind.i64.wrap (10 * (n : Int) + ((m : Int) - 48)) = ((10 * n + (m - 48) : Nat) : Int) := by rw [IntWalk.i64_in _ (by omega)]; omega
            have H1 := Lib.hid (hst.out.digit HC.out (by rw [HM.out]; exact hd))
            rw [HM.out] at H1
            clear hd
            by_cases h0 : k = 0
            · subst h0
              have h45' := h45 rfl
              have hi0 : ∀ W : World, (Instr.index 9 (.string ⟨l.toArray⟩) (.int .i64 0)).run Tryz.prog W = .ok (.int .u8 m) W := hix
              clear hix h45
              go_wp2
              go_roundw
              case rel => exact ⟨1, 10 * n + (m - 48), sg, by omega, by go_num, rfl, rfl, H1, hB⟩
              case measure => simp [intOf]; omega
            · have h0' : ¬ (k : Int) = 0 := by omega
              clear h45
              go_wp2
              go_roundw
              case rel => exact ⟨k + 1, 10 * n + (m - 48), sg, by omega, by go_num, rfl, by go_num, H1, hB⟩
              case measure => simp [intOf]; omega
          · have hno := Lib.hid (hst.out.none HC.out HA.out (by rw [HM.out]; exact hd))
            have hd' : ¬ (48 ≤ (m : Int) ∧ (m : Int) ≤ 57) := by omega
            clear hd
            by_cases h0 : k = 0
            · subst h0
              have h45' := h45 rfl
              have hi0 : ∀ W : World, (Instr.index 9 (.string ⟨l.toArray⟩) (.int .i64 0)).run Tryz.prog W = .ok (.int .u8 m) W := hix
              clear hix h45
              by_cases h48 : 48 ≤ (m : Int)
              · have h57 : ¬ (m : Int) ≤ 57 := fun h => hd' ⟨h48, h⟩
                clear hd'
                go_wp2
                go_ret2
                exact ⟨_, false, rfl, (by intro h; cases h), fun _ => hno.out, by exact below_⟩
              · clear hd'
                go_wp2
                go_ret2
                exact ⟨_, false, rfl, (by intro h; cases h), fun _ => hno.out, by exact below_⟩
            · have h0' : ¬ (k : Int) = 0 := by omega
              clear h45
              by_cases h48 : 48 ≤ (m : Int)
              · have h57 : ¬ (m : Int) ≤ 57 := fun h => hd' ⟨h48, h⟩
                clear hd'
                go_wp2
                go_ret2
                exact ⟨_, false, rfl, (by intro h; cases h), fun _ => hno.out, by exact below_⟩
              · clear hd'
                go_wp2
                go_ret2
                exact ⟨_, false, rfl, (by intro h; cases h), fun _ => hno.out, by exact below_⟩
      · obtain rfl : k = l.length := by omega
        obtain ⟨h1, h2⟩ := hst.out.last H14.out.1
        have hn : n < 10000 := by
          have h1 := hst.out.1
          have h2 : 10 ^ l.length ≤ 10 ^ 4 := Nat.pow_le_pow_right (by decide) H14.out.2
          omega
        obtain ⟨v, hv⟩ : ∃ v, sg * (n : Int) = v := ⟨_, rfl⟩
        have hvb : -1000000000 < v ∧ v < 1000000000 := by rw [← hv]; rcases h1 with rfl | rfl <;> omega
        have e1 : wrap64 (sg * (n : Int)) = v := by rw [← hv]; unfold wrap64; rcases h1 with rfl | rfl <;> omega
        rw [hv] at h2
        have hend := Lib.hid (numS_end H14.out.1 H14.out.2 h2)
        have HV := Lib.hid hv
        have HVB := Lib.hid hvb
        clear h1 h2 hv hvb
        have hzw := hB.size
        go_wp2_with (first | (go_at_call 124; (with_reducible refine (sdec_any v HVB.out _).mono ?_); rintro e w1 ⟨rfl, hb⟩; obtain ⟨hc, hf⟩ := bf hb (w.heap.size) side_; have hs := hb.size; (try simp only [World.size_alloc, World.size_setCell, World.size_drew, World.heap_drewN] at hs); have hl : w.heap.size ≤ w1.heap.size := (by omega); obtain ⟨B, hBe, hBl, hc2, hf2⟩ := bfA hb; (try simp only [World.size_alloc, World.size_setCell, World.size_drew, World.heap_drewN] at hBe); have hB : Below w.heap.size w w1 := bstep (by exact below_) hb side_; clear hs hb))
        go_ret2
        refine ⟨v, Lib.itoa v == l, rfl, fun h => ?_, fun h => ?_, by exact below_⟩
        · rw [hend.out, if_pos (by simpa using h)]
        · rw [hend.out, if_neg (by simpa using h)]
  · have hin : inB l.length 1 4 = false := by rw [← Bool.not_eq_true, inB_iff]; omega
    have hno := Lib.hid (numS_size h14)
    clear h14
    go_enter Tryz.func111, Tryz.ntmps111
    go_wp2_with (first | (go_at_call 34; refine (l6in_f _ _ _ _ (by assumption)).mono ?_; rintro e w1 ⟨rfl, rfl⟩))
    go_ret2
    exact ⟨_, false, rfl, (by intro h; cases h), fun _ => hno.out, by exact below_⟩
end Go.Proofs.YtkdggljioekkhaaGreatDoor
