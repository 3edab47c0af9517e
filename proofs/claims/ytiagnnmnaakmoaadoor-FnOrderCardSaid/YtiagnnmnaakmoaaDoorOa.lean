/-
  The walk of 'crossed' for two matrices whose products across are all told.
-/
import Derived.Test.YtiagnnmnaakmoaaDoorHa
import Derived.Test.YtiagnnmnaakmoaaDoorVp
import Derived.BigQuiet
namespace Go.Proofs.YtiagnnmnaakmoaaDoor
set_option linter.unusedSimpArgs false
set_option linter.unusedVariables false
open Go.RowKit
attribute [local go_sem ↓] Go.wp_at_zero Go.wp_at_succ
/-- A part of a matrix. -/
def mf (m : Mt) (i : Nat) : Fr := if i = 0 then m.a else if i = 1 then m.b else if i = 2 then m.c else m.d
theorem MtAt.part {w : World} {b i : Nat} {m : Mt} (h : MtAt w b m) (hi : i < 4) : w.cell? ⟨b, i * 3, none⟩ = some (.int .i64 (mf m i).re) ∧ w.cell? ⟨b, i * 3 + 1, none⟩ = some (.int .i64 (mf m i).im) ∧ w.cell? ⟨b, i * 3 + 2, none⟩ = some (.int .i64 (mf m i).den) := by
  obtain ⟨m0, m1, m2, m3, m4, m5, m6, m7, m8, m9, m10, m11⟩ := h
  match i, hi with
  | 0, _ => exact ⟨m0, m1, m2⟩
  | 1, _ => exact ⟨m3, m4, m5⟩
  | 2, _ => exact ⟨m6, m7, m8⟩
  | 3, _ => exact ⟨m9, m10, m11⟩
/-- A product across. -/
def tmv (m n : Mt) (i k : Nat) : Fr := (timesI (mf m i) (mf n k)).getD ⟨0, 0, 0⟩
def Told (m n : Mt) : Prop := ∀ i k : Nat, i < 4 → k < 4 → (timesI (mf m i) (mf n k)).isSome = true
def Rows (m n : Mt) (i : Nat) : Prop := ∀ i' k' : Nat, i' < i → k' < 4 → i' ≠ k' → tmv m n i' k' = tmv m n k' i'
def Row (m n : Mt) (i k : Nat) : Prop := ∀ k' : Nat, k' < k → i ≠ k' → tmv m n i k' = tmv m n k' i
/-- All products across are the same. -/
def crossB (m n : Mt) : Bool := (List.range 4).all fun i => (List.range 4).all fun k => decide (i = k) || (tmv m n i k == tmv m n k i)
theorem crossB_t {m n : Mt} (h : Rows m n 4) : crossB m n = true := by
  simp only [crossB, List.all_eq_true, List.mem_range, Bool.or_eq_true, decide_eq_true_eq, beq_iff_eq]
  intro i hi k hk
  by_cases e : i = k
  · exact .inl e
  · exact .inr (h i k hi hk e)
theorem crossB_f {m n : Mt} {i k : Nat} (hi : i < 4) (hk : k < 4) (hne : i ≠ k) (h : (tmv m n i k == tmv m n k i) = false) : crossB m n = false := by
  rw [Bool.eq_false_iff]
  intro hc
  simp only [crossB, List.all_eq_true, List.mem_range, Bool.or_eq_true, decide_eq_true_eq] at hc
  rcases hc i hi k hk with e | e
  · exact hne e
  · rw [e] at h; cases h
theorem Row.next {m n : Mt} {i k : Nat} (h : Row m n i k) (e : i ≠ k → tmv m n i k = tmv m n k i) : Row m n i (k + 1) := fun k' hk' hne => by
  rcases Nat.lt_succ_iff_lt_or_eq.1 hk' with h1 | rfl
  · exact h k' h1 hne
  · exact e hne
theorem Rows.next {m n : Mt} {i : Nat} (h : Rows m n i) (e : Row m n i 4) : Rows m n (i + 1) := fun i' k' hi' hk' hne => by
  rcases Nat.lt_succ_iff_lt_or_eq.1 hi' with h1 | rfl
  · exact h i' k' h1 hk' hne
  · exact e k' hk' hne
/-- What the rounds keep. -/
structure CR (w : World) (m n : Mt) (ba bb : Nat) (W : World) : Prop where
  a : MtAt W ba m
  b : MtAt W bb n
  s : SumIs W (w.heap.size) false
  B : Below w.heap.size w W
section
variable {w W w1 : World} {m n : Mt} {ba bb : Nat}
theorem CR.alloc (h : CR w m n ba bb W) (o : Obj) : CR w m n ba bb (W.alloc o) := ⟨h.a.alloc o, h.b.alloc o, h.s.alloc o, h.B.alloc h.B.size o⟩
theorem CR.drew (h : CR w m n ba bb W) : CR w m n ba bb W.drew := ⟨h.a.drew, h.b.drew, h.s.drew, h.B.drew⟩
theorem CR.drewN (h : CR w m n ba bb W) (k : Nat) : CR w m n ba bb (W.drewN k) := ⟨h.a.drewN k, h.b.drewN k, h.s.drewN k, below_drewN h.B k⟩
theorem CR.cells {i k : Nat} (h : CR w m n ba bb W) (hi : i < 4) (hk : k < 4) : W.cell? ⟨ba, i * 3, none⟩ = some (.int .i64 (mf m i).re) ∧ W.cell? ⟨ba, i * 3 + 1, none⟩ = some (.int .i64 (mf m i).im) ∧ W.cell? ⟨ba, i * 3 + 2, none⟩ = some (.int .i64 (mf m i).den) ∧ W.cell? ⟨bb, k * 3, none⟩ = some (.int .i64 (mf n k).re) ∧ W.cell? ⟨bb, k * 3 + 1, none⟩ = some (.int .i64 (mf n k).im) ∧ W.cell? ⟨bb, k * 3 + 2, none⟩ = some (.int .i64 (mf n k).den) ∧ W.cell? ⟨ba, k * 3, none⟩ = some (.int .i64 (mf m k).re) ∧ W.cell? ⟨ba, k * 3 + 1, none⟩ = some (.int .i64 (mf m k).im) ∧ W.cell? ⟨ba, k * 3 + 2, none⟩ = some (.int .i64 (mf m k).den) ∧ W.cell? ⟨bb, i * 3, none⟩ = some (.int .i64 (mf n i).re) ∧ W.cell? ⟨bb, i * 3 + 1, none⟩ = some (.int .i64 (mf n i).im) ∧ W.cell? ⟨bb, i * 3 + 2, none⟩ = some (.int .i64 (mf n i).den) :=
  ⟨(h.a.part hi).1, (h.a.part hi).2.1, (h.a.part hi).2.2, (h.b.part hk).1, (h.b.part hk).2.1, (h.b.part hk).2.2, (h.a.part hk).1, (h.a.part hk).2.1, (h.a.part hk).2.2, h.b.part hi⟩
theorem CR.cells1 {i k : Nat} (h : CR w m n ba bb W) (hi : i < 4) (hk : k < 4) : W.cell? ⟨ba, i * 3, none⟩ = some (.int .i64 (mf m i).re) ∧ W.cell? ⟨ba, i * 3 + 1, none⟩ = some (.int .i64 (mf m i).im) ∧ W.cell? ⟨ba, i * 3 + 2, none⟩ = some (.int .i64 (mf m i).den) ∧ W.cell? ⟨bb, k * 3, none⟩ = some (.int .i64 (mf n k).re) ∧ W.cell? ⟨bb, k * 3 + 1, none⟩ = some (.int .i64 (mf n k).im) ∧ W.cell? ⟨bb, k * 3 + 2, none⟩ = some (.int .i64 (mf n k).den) ∧ W.cell? ⟨ba, k * 3, none⟩ = some (.int .i64 (mf m k).re) ∧ W.cell? ⟨ba, k * 3 + 1, none⟩ = some (.int .i64 (mf m k).im) ∧ W.cell? ⟨ba, k * 3 + 2, none⟩ = some (.int .i64 (mf m k).den) ∧ W.cell? ⟨bb, i * 3, none⟩ = some (.int .i64 (mf n i).re) ∧ W.cell? ⟨bb, i * 3 + 1, none⟩ = some (.int .i64 (mf n i).im) ∧ W.cell? ⟨bb, i * 3 + 2, none⟩ = some (.int .i64 (mf n i).den) ∧ W.cell? ⟨w.heap.size, 0, none⟩ = some (.bool false) :=
  ⟨(h.a.part hi).1, (h.a.part hi).2.1, (h.a.part hi).2.2, (h.b.part hk).1, (h.b.part hk).2.1, (h.b.part hk).2.2, (h.a.part hk).1, (h.a.part hk).2.1, (h.a.part hk).2.2, (h.b.part hi).1, (h.b.part hi).2.1, (h.b.part hi).2.2, h.s.cell⟩
theorem cr_times (w : World) (m n : Mt) (ba bb : Nat) (hba : ba < w.heap.size) (hbb : bb < w.heap.size) (htd : Told m n) (i k : Nat) (W : World) (hi : i < 4) (hk : k < 4) (h : CR w m n ba bb W) :
    Calls Tryd.prog 46 #[.pointer (some ⟨w.heap.size, 0, none⟩), frv (mf m i), frv (mf n k)] W fun e w' => e = .returned (frv (tmv m n i k)) ∧ CR w m n ba bb w' := by
  refine (x_times (mf m i) (mf n k) (w.heap.size) W (SumEx.of h.s)).mono ?_
  rintro e1 w1 ⟨rfl, hu, hx⟩
  have hs := hu _ h.s
  have ht := htd i k hi hk
  rw [Option.isNone_eq_false_iff.2 ht] at hs
  have hlt := h.s.lt
  exact ⟨rfl, h.a.same (fun o => World.cell?_of_block (w := W) (hx.block ba (by omega) (by omega))), h.b.same (fun o => World.cell?_of_block (w := W) (hx.block bb (by omega) (by omega))), hs, (BelX.step (BelX.of h.B) hx h.B.size).below (by omega)⟩
end
set_option maxRecDepth 100000 in
set_option maxHeartbeats 4000000 in
theorem crossed_any (m n : Mt) (ba bb : Nat) (w : World) (hta : MtAt w ba m) (htb : MtAt w bb n) (htd : Told m n) :
    Calls Tryd.prog 62 #[.slice (some ⟨ba, 0, none⟩) 4 4, .slice (some ⟨bb, 0, none⟩) 4 4] w fun e w' => e = .returned (.bool (crossB m n)) ∧ Below w.heap.size w w' := by
  have hba := hta.lt
  have hbb := htb.lt
  have hC0 : CR w m n ba bb (w.alloc (.cells #[.bool false] 75)) := ⟨hta.alloc _, htb.alloc _, SumIs.new w false, (Below.refl _ _).alloc (Nat.le_refl _) _⟩
  go_enter Tryd.func62, Tryd.ntmps62
  go_wp2
  go_loopw [6, 7, 12] (fun _ _ i wr => ∃ k : Nat, k ≤ 4 ∧ i = .int .i64 k ∧ Hid (Rows m n k) ∧ CR w m n ba bb wr) (fun _ _ i _ => 4 - (intOf i).toNat)
  case atStart => exact ⟨0, by omega, rfl, Lib.hid (fun _ _ h => absurd h (Nat.not_lt_zero _)), hC0⟩
  case round =>
    clear hC0
    obtain ⟨i, hi, rfl, hrw, hC⟩ := hrel
    have hB := hC.B
    rcases Nat.lt_or_ge i 4 with hi4 | hi4
    · have hi0 : (i : Int) < 4 := by omega
      go_wp2
      go_loopw [7, 17] (fun _ k wr => ∃ j : Nat, j ≤ 4 ∧ k = .int .i64 j ∧ Hid (Row m n i j) ∧ CR w m n ba bb wr) (fun _ k _ => 4 - (intOf k).toNat)
      case atStart => exact ⟨0, by omega, rfl, Lib.hid (fun _ h => absurd h (Nat.not_lt_zero _)), hC⟩
      case round =>
        clear hC hB
        obtain ⟨k, hk, rfl, hro, hC⟩ := hrel
        have hB := hC.B
        rcases Nat.lt_or_ge k 4 with hk4 | hk4
        · have hk0 : (k : Int) < 4 := by omega
          by_cases hik : i = k
          · subst hik
            have hsc := hC.s.cell
            go_upto_region 8 with fail
            go_quiet (fail)
            go_wp2
            go_roundw
            case rel => exact ⟨i + 1, by omega, by go_num, Lib.hid (hro.out.next fun e => absurd rfl e), by (repeat' (first | (with_reducible assumption) | (with_reducible apply CR.alloc) | (with_reducible apply CR.drewN) | (with_reducible apply CR.drew)))⟩
            case measure => simp [intOf]; omega
          · have hne : ((i : Int) == (k : Int)) = false := by simp; omega
            have hne2 : ((i : Int) != (k : Int)) = true := by simp; omega
            have hi00 : (0 : Int) ≤ (i : Int) := by omega
            have hk00 : (0 : Int) ≤ (k : Int) := by omega
            cases h1 : ((tmv m n i k).re == (tmv m n k i).re)
            · have hf : crossB m n = false := crossB_f hi4 hk4 hik (by rw [← fr_eq, h1]; simp)
              go_upto_region 8 with fail
              refine wp_region_noPanic ?_
              refine wp_region_held_drew (S := fun w' => w'.cell? ⟨ba, i * 3, none⟩ = some (.int .i64 (mf m i).re) ∧ w'.cell? ⟨ba, i * 3 + 1, none⟩ = some (.int .i64 (mf m i).im) ∧ w'.cell? ⟨ba, i * 3 + 2, none⟩ = some (.int .i64 (mf m i).den) ∧ w'.cell? ⟨bb, k * 3, none⟩ = some (.int .i64 (mf n k).re) ∧ w'.cell? ⟨bb, k * 3 + 1, none⟩ = some (.int .i64 (mf n k).im) ∧ w'.cell? ⟨bb, k * 3 + 2, none⟩ = some (.int .i64 (mf n k).den) ∧ w'.cell? ⟨ba, k * 3, none⟩ = some (.int .i64 (mf m k).re) ∧ w'.cell? ⟨ba, k * 3 + 1, none⟩ = some (.int .i64 (mf m k).im) ∧ w'.cell? ⟨ba, k * 3 + 2, none⟩ = some (.int .i64 (mf m k).den) ∧ w'.cell? ⟨bb, i * 3, none⟩ = some (.int .i64 (mf n i).re) ∧ w'.cell? ⟨bb, i * 3 + 1, none⟩ = some (.int .i64 (mf n i).im) ∧ w'.cell? ⟨bb, i * 3 + 2, none⟩ = some (.int .i64 (mf n i).den)) (by kernel_rfl) ?_ (fun hHeld => ?_)
              · (try dsimp only)
                refine CR.cells (w := w) ?_ hi4 hk4
                (repeat' (first | (with_reducible assumption) | (with_reducible apply CR.alloc) | (with_reducible apply CR.drewN) | (with_reducible apply CR.drew)))
              refine wpAnyH_take (i := 0) (v := ?vh10) (by simp; rfl) (by kernel_rfl) (by kernel_rfl) (by kernel_rfl) (fun _ _ _ h => h) (Or.inl ⟨by rfl, ?yh10⟩) (by assumption) ?rh10
              case yh10 => (intro w' hSw; (try dsimp only at hSw); go_simp; first | done | with_reducible rfl)
              (try simp only [Act.put, List.setIfInBounds_toArray, List.set_cons_zero, List.set_cons_succ])
              refine wpAnyH_take (i := 1) (v := ?vh11) (by simp; rfl) (by kernel_rfl) (by kernel_rfl) (by kernel_rfl) (fun _ _ _ h => h) (Or.inl ⟨by rfl, ?yh11⟩) (by assumption) ?rh11
              case yh11 => (intro w' hSw; (try dsimp only at hSw); go_simp; first | done | with_reducible rfl)
              (try simp only [Act.put, List.setIfInBounds_toArray, List.set_cons_zero, List.set_cons_succ])
              refine wpAnyH_take (i := 2) (v := ?vh12) (by simp; rfl) (by kernel_rfl) (by kernel_rfl) (by kernel_rfl) (fun _ _ _ h => h) (Or.inl ⟨by rfl, ?yh12⟩) (by assumption) ?rh12
              case yh12 => (intro w' hSw; (try dsimp only at hSw); go_simp; first | done | with_reducible rfl)
              (try simp only [Act.put, List.setIfInBounds_toArray, List.set_cons_zero, List.set_cons_succ])
              refine wpAnyH_take (i := 3) (v := ?vh13) (by simp; rfl) (by kernel_rfl) (by kernel_rfl) (by kernel_rfl) (fun _ _ _ h => h) (Or.inl ⟨by rfl, ?yh13⟩) (by assumption) ?rh13
              case yh13 => (intro w' hSw; (try dsimp only at hSw); go_simp; first | done | with_reducible rfl)
              (try simp only [Act.put, List.setIfInBounds_toArray, List.set_cons_zero, List.set_cons_succ])
              refine wpAnyH_take (i := 4) (v := ?vh14) (by simp; rfl) (by kernel_rfl) (by kernel_rfl) (by kernel_rfl) (fun _ _ _ h => h) (Or.inl ⟨by rfl, ?yh14⟩) (by assumption) ?rh14
              case yh14 => (intro w' hSw; (try dsimp only at hSw); go_simp; first | done | with_reducible rfl)
              (try simp only [Act.put, List.setIfInBounds_toArray, List.set_cons_zero, List.set_cons_succ])
              refine wpAnyH_take (i := 5) (v := ?vh15) (by simp; rfl) (by kernel_rfl) (by kernel_rfl) (by kernel_rfl) (fun _ _ _ h => h) (Or.inl ⟨by rfl, ?yh15⟩) (by assumption) ?rh15
              case yh15 => (intro w' hSw; (try dsimp only at hSw); go_simp; first | done | with_reducible rfl)
              (try simp only [Act.put, List.setIfInBounds_toArray, List.set_cons_zero, List.set_cons_succ])
              refine wpAnyH_take (i := 6) (v := ?vh16) (by simp; rfl) (by kernel_rfl) (by kernel_rfl) (by kernel_rfl) (fun _ _ _ h => h) (Or.inl ⟨by rfl, ?yh16⟩) (by assumption) ?rh16
              case yh16 => (intro w' hSw; (try dsimp only at hSw); go_simp; first | done | with_reducible rfl)
              (try simp only [Act.put, List.setIfInBounds_toArray, List.set_cons_zero, List.set_cons_succ])
              refine wpAnyH_take (i := 7) (v := ?vh17) (by simp; rfl) (by kernel_rfl) (by kernel_rfl) (by kernel_rfl) (fun _ _ _ h => h) (Or.inl ⟨by rfl, ?yh17⟩) (by assumption) ?rh17
              case yh17 => (intro w' hSw; (try dsimp only at hSw); go_simp; first | done | with_reducible rfl)
              (try simp only [Act.put, List.setIfInBounds_toArray, List.set_cons_zero, List.set_cons_succ])
              refine wpAnyH_take (i := 8) (v := ?vh18) (by simp; rfl) (by kernel_rfl) (by kernel_rfl) (by kernel_rfl) (fun _ _ _ h => h) (Or.inl ⟨by rfl, ?yh18⟩) (by assumption) ?rh18
              case yh18 => (intro w' hSw; (try dsimp only at hSw); go_simp; first | done | with_reducible rfl)
              (try simp only [Act.put, List.setIfInBounds_toArray, List.set_cons_zero, List.set_cons_succ])
              refine wpAnyH_take (i := 9) (v := ?vh19) (by simp; rfl) (by kernel_rfl) (by kernel_rfl) (by kernel_rfl) (fun _ _ _ h => h) (Or.inl ⟨by rfl, ?yh19⟩) (by assumption) ?rh19
              case yh19 => (intro w' hSw; (try dsimp only at hSw); go_simp; first | done | with_reducible rfl)
              (try simp only [Act.put, List.setIfInBounds_toArray, List.set_cons_zero, List.set_cons_succ])
              refine wpAnyH_take (i := 10) (v := ?vh110) (by simp; rfl) (by kernel_rfl) (by kernel_rfl) (by kernel_rfl) (fun _ _ _ h => h) (Or.inl ⟨by rfl, ?yh110⟩) (by assumption) ?rh110
              case yh110 => (intro w' hSw; (try dsimp only at hSw); go_simp; first | done | with_reducible rfl)
              (try simp only [Act.put, List.setIfInBounds_toArray, List.set_cons_zero, List.set_cons_succ])
              refine wpAnyH_take (i := 11) (v := ?vh111) (by simp; rfl) (by kernel_rfl) (by kernel_rfl) (by kernel_rfl) (fun _ _ _ h => h) (Or.inl ⟨by rfl, ?yh111⟩) (by assumption) ?rh111
              case yh111 => (intro w' hSw; (try dsimp only at hSw); go_simp; first | done | with_reducible rfl)
              (try simp only [Act.put, List.setIfInBounds_toArray, List.set_cons_zero, List.set_cons_succ])
              refine wpAnyH_take (i := 12) (v := ?vh112) (by simp; rfl) (by kernel_rfl) (by kernel_rfl) (by kernel_rfl) (fun _ _ _ h => h) (Or.inl ⟨by rfl, ?yh112⟩) (by assumption) ?rh112
              case yh112 => (intro w' hSw; (try dsimp only at hSw); go_simp; first | done | with_reducible rfl)
              (try simp only [Act.put, List.setIfInBounds_toArray, List.set_cons_zero, List.set_cons_succ])
              refine wpAnyH_take (i := 14) (v := ?vh114) (by simp; rfl) (by kernel_rfl) (by kernel_rfl) (by kernel_rfl) (fun _ _ _ h => h) (Or.inl ⟨by rfl, ?yh114⟩) (by assumption) ?rh114
              case yh114 => (intro w' hSw; (try dsimp only at hSw); go_simp; first | done | with_reducible rfl)
              (try simp only [Act.put, List.setIfInBounds_toArray, List.set_cons_zero, List.set_cons_succ])
              refine wpAnyH_take (i := 15) (v := ?vh115) (by simp; rfl) (by kernel_rfl) (by kernel_rfl) (by kernel_rfl) (fun _ _ _ h => h) (Or.inl ⟨by rfl, ?yh115⟩) (by assumption) ?rh115
              case yh115 => (intro w' hSw; (try dsimp only at hSw); go_simp; first | done | with_reducible rfl)
              (try simp only [Act.put, List.setIfInBounds_toArray, List.set_cons_zero, List.set_cons_succ])
              refine wpAnyH_take (i := 16) (v := ?vh116) (by simp; rfl) (by kernel_rfl) (by kernel_rfl) (by kernel_rfl) (fun _ _ _ h => h) (Or.inl ⟨by rfl, ?yh116⟩) (by assumption) ?rh116
              case yh116 => (intro w' hSw; (try dsimp only at hSw); go_simp; first | done | with_reducible rfl)
              (try simp only [Act.put, List.setIfInBounds_toArray, List.set_cons_zero, List.set_cons_succ])
              refine wpAnyH_take (i := 17) (v := ?vh117) (by simp; rfl) (by kernel_rfl) (by kernel_rfl) (by kernel_rfl) (fun _ _ _ h => h) (Or.inl ⟨by rfl, ?yh117⟩) (by assumption) ?rh117
              case yh117 => (intro w' hSw; (try dsimp only at hSw); go_simp; first | done | with_reducible rfl)
              (try simp only [Act.put, List.setIfInBounds_toArray, List.set_cons_zero, List.set_cons_succ])
              refine wpAnyH_take (i := 18) (v := ?vh118) (by simp; rfl) (by kernel_rfl) (by kernel_rfl) (by kernel_rfl) (fun _ _ _ h => h) (Or.inl ⟨by rfl, ?yh118⟩) (by assumption) ?rh118
              case yh118 => (intro w' hSw; (try dsimp only at hSw); go_simp; first | done | with_reducible rfl)
              (try simp only [Act.put, List.setIfInBounds_toArray, List.set_cons_zero, List.set_cons_succ])
              refine wpAnyH_take (i := 19) (v := ?vh119) (by simp; rfl) (by kernel_rfl) (by kernel_rfl) (by kernel_rfl) (fun _ _ _ h => h) (Or.inl ⟨by rfl, ?yh119⟩) (by assumption) ?rh119
              case yh119 => (intro w' hSw; (try dsimp only at hSw); go_simp; first | done | with_reducible rfl)
              (try simp only [Act.put, List.setIfInBounds_toArray, List.set_cons_zero, List.set_cons_succ])
              refine wpAnyH_take (i := 20) (v := ?vh120) (by simp; rfl) (by kernel_rfl) (by kernel_rfl) (by kernel_rfl) (fun _ _ _ h => h) (Or.inl ⟨by rfl, ?yh120⟩) (by assumption) ?rh120
              case yh120 => (intro w' hSw; (try dsimp only at hSw); go_simp; first | done | with_reducible rfl)
              (try simp only [Act.put, List.setIfInBounds_toArray, List.set_cons_zero, List.set_cons_succ])
              refine wpAnyH_take (i := 21) (v := ?vh121) (by simp; rfl) (by kernel_rfl) (by kernel_rfl) (by kernel_rfl) (fun _ _ _ h => h) (Or.inl ⟨by rfl, ?yh121⟩) (by assumption) ?rh121
              case yh121 => (intro w' hSw; (try dsimp only at hSw); go_simp; first | done | with_reducible rfl)
              (try simp only [Act.put, List.setIfInBounds_toArray, List.set_cons_zero, List.set_cons_succ])
              refine wpAnyH_take (i := 22) (v := ?vh122) (by simp; rfl) (by kernel_rfl) (by kernel_rfl) (by kernel_rfl) (fun _ _ _ h => h) (Or.inl ⟨by rfl, ?yh122⟩) (by assumption) ?rh122
              case yh122 => (intro w' hSw; (try dsimp only at hSw); go_simp; first | done | with_reducible rfl)
              (try simp only [Act.put, List.setIfInBounds_toArray, List.set_cons_zero, List.set_cons_succ])
              refine wpAnyH_ready (rs := [13]) (by kernel_rfl) (by simp) ?_
              refine AllReadyH.cons (by simp; rfl) (fun K hK => ?_) AllReadyH.nil
              go_simp
              (go_at_call 46; (with_reducible refine (cr_times w m n ba bb hba hbb htd i k _ hi4 hk4 (by (repeat' (first | (with_reducible assumption) | (with_reducible apply CR.alloc) | (with_reducible apply CR.drewN) | (with_reducible apply CR.drew))))).mono ?_); rintro e wd ⟨rfl, hC⟩; have hB := hC.B; have hl := hC.s.lt)
              refine hK.out _ _ ?_ (fun hHeld => ?_)
              · (try dsimp only)
                refine CR.cells (w := w) ?_ hi4 hk4
                (repeat' (first | (with_reducible assumption) | (with_reducible apply CR.alloc) | (with_reducible apply CR.drewN) | (with_reducible apply CR.drew)))
              clear hK K
              (try simp only [Act.put, List.setIfInBounds_toArray, List.set_cons_zero, List.set_cons_succ])
              refine wpAnyH_ready (rs := [23]) (by kernel_rfl) (by simp) ?_
              refine AllReadyH.cons (by simp; rfl) (fun K hK => ?_) AllReadyH.nil
              go_simp
              (go_at_call 46; (with_reducible refine (cr_times w m n ba bb hba hbb htd k i _ hk4 hi4 (by (repeat' (first | (with_reducible assumption) | (with_reducible apply CR.alloc) | (with_reducible apply CR.drewN) | (with_reducible apply CR.drew))))).mono ?_); rintro e wd ⟨rfl, hC⟩; have hB := hC.B; have hl := hC.s.lt)
              refine hK.out _ _ ?_ (fun hHeld => ?_)
              · (try dsimp only)
                refine CR.cells (w := w) ?_ hi4 hk4
                (repeat' (first | (with_reducible assumption) | (with_reducible apply CR.alloc) | (with_reducible apply CR.drewN) | (with_reducible apply CR.drew)))
              clear hK K
              (try simp only [Act.put, List.setIfInBounds_toArray, List.set_cons_zero, List.set_cons_succ])
              refine wpAnyH_take (i := 24) (v := ?vh124) (by simp; rfl) (by kernel_rfl) (by kernel_rfl) (by kernel_rfl) (fun _ _ _ h => h) (Or.inl ⟨by rfl, ?yh124⟩) (by assumption) ?rh124
              case yh124 => (intro w' hSw; (try dsimp only at hSw); go_simp; first | done | with_reducible rfl)
              (try simp only [Act.put, List.setIfInBounds_toArray, List.set_cons_zero, List.set_cons_succ])
              refine wpAnyH_take (i := 25) (v := ?vh125) (by simp; rfl) (by kernel_rfl) (by kernel_rfl) (by kernel_rfl) (fun _ _ _ h => h) (Or.inl ⟨by rfl, ?yh125⟩) (by assumption) ?rh125
              case yh125 => (intro w' hSw; (try dsimp only at hSw); go_simp; first | done | with_reducible rfl)
              (try simp only [Act.put, List.setIfInBounds_toArray, List.set_cons_zero, List.set_cons_succ])
              refine wpAnyH_take (i := 26) (v := ?vh126) (by simp; rfl) (by kernel_rfl) (by kernel_rfl) (by kernel_rfl) (fun _ _ _ h => h) (Or.inl ⟨by rfl, ?yh126⟩) (by assumption) ?rh126
              case yh126 => (intro w' hSw; (try dsimp only at hSw); go_simp; first | done | with_reducible rfl)
              (try simp only [Act.put, List.setIfInBounds_toArray, List.set_cons_zero, List.set_cons_succ])
              refine wpAnyH_take (i := 27) (v := undef) (by simp; rfl) (by kernel_rfl) (by kernel_rfl) (by kernel_rfl) (fun _ _ _ h => h) (Or.inr ⟨by rfl, rfl⟩) (by assumption) ?_
              (try simp only [Act.put, List.setIfInBounds_toArray, List.set_cons_zero, List.set_cons_succ])
              refine wpAnyH_take (i := 28) (v := undef) (by simp; rfl) (by kernel_rfl) (by kernel_rfl) (by kernel_rfl) (fun _ _ _ h => h) (Or.inr ⟨by rfl, rfl⟩) (by assumption) ?_
              (try simp only [Act.put, List.setIfInBounds_toArray, List.set_cons_zero, List.set_cons_succ])
              refine wpAnyH_take (i := 29) (v := undef) (by simp; rfl) (by kernel_rfl) (by kernel_rfl) (by kernel_rfl) (fun _ _ _ h => h) (Or.inr ⟨by rfl, rfl⟩) (by assumption) ?_
              (try simp only [Act.put, List.setIfInBounds_toArray, List.set_cons_zero, List.set_cons_succ])
              refine wpAnyH_take (i := 30) (v := undef) (by simp; rfl) (by kernel_rfl) (by kernel_rfl) (by kernel_rfl) (fun _ _ _ h => h) (Or.inr ⟨by rfl, rfl⟩) (by assumption) ?_
              (try simp only [Act.put, List.setIfInBounds_toArray, List.set_cons_zero, List.set_cons_succ])
              refine wpAnyH_take (i := 31) (v := ?vh131) (by simp; rfl) (by kernel_rfl) (by kernel_rfl) (by kernel_rfl) (fun _ _ _ h => h) (Or.inl ⟨by rfl, ?yh131⟩) (by assumption) ?rh131
              case yh131 => (intro w' hSw; (try dsimp only at hSw); go_simp; first | done | with_reducible rfl)
              (try simp only [Act.put, List.setIfInBounds_toArray, List.set_cons_zero, List.set_cons_succ])
              refine wpAnyH_done (by kernel_rfl) ?_ _
              refine NoPanic.normal ?_
              go_wp2
              go_ret
              exact ⟨by (try simp only [hf]); (first | done | rfl), by exact below_⟩
            cases h2 : ((tmv m n i k).im == (tmv m n k i).im)
            · have hf : crossB m n = false := crossB_f hi4 hk4 hik (by rw [← fr_eq, h2]; simp)
              go_upto_region 8 with fail
              refine wp_region_noPanic ?_
              refine wp_region_held_drew (S := fun w' => w'.cell? ⟨ba, i * 3, none⟩ = some (.int .i64 (mf m i).re) ∧ w'.cell? ⟨ba, i * 3 + 1, none⟩ = some (.int .i64 (mf m i).im) ∧ w'.cell? ⟨ba, i * 3 + 2, none⟩ = some (.int .i64 (mf m i).den) ∧ w'.cell? ⟨bb, k * 3, none⟩ = some (.int .i64 (mf n k).re) ∧ w'.cell? ⟨bb, k * 3 + 1, none⟩ = some (.int .i64 (mf n k).im) ∧ w'.cell? ⟨bb, k * 3 + 2, none⟩ = some (.int .i64 (mf n k).den) ∧ w'.cell? ⟨ba, k * 3, none⟩ = some (.int .i64 (mf m k).re) ∧ w'.cell? ⟨ba, k * 3 + 1, none⟩ = some (.int .i64 (mf m k).im) ∧ w'.cell? ⟨ba, k * 3 + 2, none⟩ = some (.int .i64 (mf m k).den) ∧ w'.cell? ⟨bb, i * 3, none⟩ = some (.int .i64 (mf n i).re) ∧ w'.cell? ⟨bb, i * 3 + 1, none⟩ = some (.int .i64 (mf n i).im) ∧ w'.cell? ⟨bb, i * 3 + 2, none⟩ = some (.int .i64 (mf n i).den)) (by kernel_rfl) ?_ (fun hHeld => ?_)
              · (try dsimp only)
                refine CR.cells (w := w) ?_ hi4 hk4
                (repeat' (first | (with_reducible assumption) | (with_reducible apply CR.alloc) | (with_reducible apply CR.drewN) | (with_reducible apply CR.drew)))
              refine wpAnyH_take (i := 0) (v := ?vh20) (by simp; rfl) (by kernel_rfl) (by kernel_rfl) (by kernel_rfl) (fun _ _ _ h => h) (Or.inl ⟨by rfl, ?yh20⟩) (by assumption) ?rh20
              case yh20 => (intro w' hSw; (try dsimp only at hSw); go_simp; first | done | with_reducible rfl)
              (try simp only [Act.put, List.setIfInBounds_toArray, List.set_cons_zero, List.set_cons_succ])
              refine wpAnyH_take (i := 1) (v := ?vh21) (by simp; rfl) (by kernel_rfl) (by kernel_rfl) (by kernel_rfl) (fun _ _ _ h => h) (Or.inl ⟨by rfl, ?yh21⟩) (by assumption) ?rh21
              case yh21 => (intro w' hSw; (try dsimp only at hSw); go_simp; first | done | with_reducible rfl)
              (try simp only [Act.put, List.setIfInBounds_toArray, List.set_cons_zero, List.set_cons_succ])
              refine wpAnyH_take (i := 2) (v := ?vh22) (by simp; rfl) (by kernel_rfl) (by kernel_rfl) (by kernel_rfl) (fun _ _ _ h => h) (Or.inl ⟨by rfl, ?yh22⟩) (by assumption) ?rh22
              case yh22 => (intro w' hSw; (try dsimp only at hSw); go_simp; first | done | with_reducible rfl)
              (try simp only [Act.put, List.setIfInBounds_toArray, List.set_cons_zero, List.set_cons_succ])
              refine wpAnyH_take (i := 3) (v := ?vh23) (by simp; rfl) (by kernel_rfl) (by kernel_rfl) (by kernel_rfl) (fun _ _ _ h => h) (Or.inl ⟨by rfl, ?yh23⟩) (by assumption) ?rh23
              case yh23 => (intro w' hSw; (try dsimp only at hSw); go_simp; first | done | with_reducible rfl)
              (try simp only [Act.put, List.setIfInBounds_toArray, List.set_cons_zero, List.set_cons_succ])
              refine wpAnyH_take (i := 4) (v := ?vh24) (by simp; rfl) (by kernel_rfl) (by kernel_rfl) (by kernel_rfl) (fun _ _ _ h => h) (Or.inl ⟨by rfl, ?yh24⟩) (by assumption) ?rh24
              case yh24 => (intro w' hSw; (try dsimp only at hSw); go_simp; first | done | with_reducible rfl)
              (try simp only [Act.put, List.setIfInBounds_toArray, List.set_cons_zero, List.set_cons_succ])
              refine wpAnyH_take (i := 5) (v := ?vh25) (by simp; rfl) (by kernel_rfl) (by kernel_rfl) (by kernel_rfl) (fun _ _ _ h => h) (Or.inl ⟨by rfl, ?yh25⟩) (by assumption) ?rh25
              case yh25 => (intro w' hSw; (try dsimp only at hSw); go_simp; first | done | with_reducible rfl)
              (try simp only [Act.put, List.setIfInBounds_toArray, List.set_cons_zero, List.set_cons_succ])
              refine wpAnyH_take (i := 6) (v := ?vh26) (by simp; rfl) (by kernel_rfl) (by kernel_rfl) (by kernel_rfl) (fun _ _ _ h => h) (Or.inl ⟨by rfl, ?yh26⟩) (by assumption) ?rh26
              case yh26 => (intro w' hSw; (try dsimp only at hSw); go_simp; first | done | with_reducible rfl)
              (try simp only [Act.put, List.setIfInBounds_toArray, List.set_cons_zero, List.set_cons_succ])
              refine wpAnyH_take (i := 7) (v := ?vh27) (by simp; rfl) (by kernel_rfl) (by kernel_rfl) (by kernel_rfl) (fun _ _ _ h => h) (Or.inl ⟨by rfl, ?yh27⟩) (by assumption) ?rh27
              case yh27 => (intro w' hSw; (try dsimp only at hSw); go_simp; first | done | with_reducible rfl)
              (try simp only [Act.put, List.setIfInBounds_toArray, List.set_cons_zero, List.set_cons_succ])
              refine wpAnyH_take (i := 8) (v := ?vh28) (by simp; rfl) (by kernel_rfl) (by kernel_rfl) (by kernel_rfl) (fun _ _ _ h => h) (Or.inl ⟨by rfl, ?yh28⟩) (by assumption) ?rh28
              case yh28 => (intro w' hSw; (try dsimp only at hSw); go_simp; first | done | with_reducible rfl)
              (try simp only [Act.put, List.setIfInBounds_toArray, List.set_cons_zero, List.set_cons_succ])
              refine wpAnyH_take (i := 9) (v := ?vh29) (by simp; rfl) (by kernel_rfl) (by kernel_rfl) (by kernel_rfl) (fun _ _ _ h => h) (Or.inl ⟨by rfl, ?yh29⟩) (by assumption) ?rh29
              case yh29 => (intro w' hSw; (try dsimp only at hSw); go_simp; first | done | with_reducible rfl)
              (try simp only [Act.put, List.setIfInBounds_toArray, List.set_cons_zero, List.set_cons_succ])
              refine wpAnyH_take (i := 10) (v := ?vh210) (by simp; rfl) (by kernel_rfl) (by kernel_rfl) (by kernel_rfl) (fun _ _ _ h => h) (Or.inl ⟨by rfl, ?yh210⟩) (by assumption) ?rh210
              case yh210 => (intro w' hSw; (try dsimp only at hSw); go_simp; first | done | with_reducible rfl)
              (try simp only [Act.put, List.setIfInBounds_toArray, List.set_cons_zero, List.set_cons_succ])
              refine wpAnyH_take (i := 11) (v := ?vh211) (by simp; rfl) (by kernel_rfl) (by kernel_rfl) (by kernel_rfl) (fun _ _ _ h => h) (Or.inl ⟨by rfl, ?yh211⟩) (by assumption) ?rh211
              case yh211 => (intro w' hSw; (try dsimp only at hSw); go_simp; first | done | with_reducible rfl)
              (try simp only [Act.put, List.setIfInBounds_toArray, List.set_cons_zero, List.set_cons_succ])
              refine wpAnyH_take (i := 12) (v := ?vh212) (by simp; rfl) (by kernel_rfl) (by kernel_rfl) (by kernel_rfl) (fun _ _ _ h => h) (Or.inl ⟨by rfl, ?yh212⟩) (by assumption) ?rh212
              case yh212 => (intro w' hSw; (try dsimp only at hSw); go_simp; first | done | with_reducible rfl)
              (try simp only [Act.put, List.setIfInBounds_toArray, List.set_cons_zero, List.set_cons_succ])
              refine wpAnyH_take (i := 14) (v := ?vh214) (by simp; rfl) (by kernel_rfl) (by kernel_rfl) (by kernel_rfl) (fun _ _ _ h => h) (Or.inl ⟨by rfl, ?yh214⟩) (by assumption) ?rh214
              case yh214 => (intro w' hSw; (try dsimp only at hSw); go_simp; first | done | with_reducible rfl)
              (try simp only [Act.put, List.setIfInBounds_toArray, List.set_cons_zero, List.set_cons_succ])
              refine wpAnyH_take (i := 15) (v := ?vh215) (by simp; rfl) (by kernel_rfl) (by kernel_rfl) (by kernel_rfl) (fun _ _ _ h => h) (Or.inl ⟨by rfl, ?yh215⟩) (by assumption) ?rh215
              case yh215 => (intro w' hSw; (try dsimp only at hSw); go_simp; first | done | with_reducible rfl)
              (try simp only [Act.put, List.setIfInBounds_toArray, List.set_cons_zero, List.set_cons_succ])
              refine wpAnyH_take (i := 16) (v := ?vh216) (by simp; rfl) (by kernel_rfl) (by kernel_rfl) (by kernel_rfl) (fun _ _ _ h => h) (Or.inl ⟨by rfl, ?yh216⟩) (by assumption) ?rh216
              case yh216 => (intro w' hSw; (try dsimp only at hSw); go_simp; first | done | with_reducible rfl)
              (try simp only [Act.put, List.setIfInBounds_toArray, List.set_cons_zero, List.set_cons_succ])
              refine wpAnyH_take (i := 17) (v := ?vh217) (by simp; rfl) (by kernel_rfl) (by kernel_rfl) (by kernel_rfl) (fun _ _ _ h => h) (Or.inl ⟨by rfl, ?yh217⟩) (by assumption) ?rh217
              case yh217 => (intro w' hSw; (try dsimp only at hSw); go_simp; first | done | with_reducible rfl)
              (try simp only [Act.put, List.setIfInBounds_toArray, List.set_cons_zero, List.set_cons_succ])
              refine wpAnyH_take (i := 18) (v := ?vh218) (by simp; rfl) (by kernel_rfl) (by kernel_rfl) (by kernel_rfl) (fun _ _ _ h => h) (Or.inl ⟨by rfl, ?yh218⟩) (by assumption) ?rh218
              case yh218 => (intro w' hSw; (try dsimp only at hSw); go_simp; first | done | with_reducible rfl)
              (try simp only [Act.put, List.setIfInBounds_toArray, List.set_cons_zero, List.set_cons_succ])
              refine wpAnyH_take (i := 19) (v := ?vh219) (by simp; rfl) (by kernel_rfl) (by kernel_rfl) (by kernel_rfl) (fun _ _ _ h => h) (Or.inl ⟨by rfl, ?yh219⟩) (by assumption) ?rh219
              case yh219 => (intro w' hSw; (try dsimp only at hSw); go_simp; first | done | with_reducible rfl)
              (try simp only [Act.put, List.setIfInBounds_toArray, List.set_cons_zero, List.set_cons_succ])
              refine wpAnyH_take (i := 20) (v := ?vh220) (by simp; rfl) (by kernel_rfl) (by kernel_rfl) (by kernel_rfl) (fun _ _ _ h => h) (Or.inl ⟨by rfl, ?yh220⟩) (by assumption) ?rh220
              case yh220 => (intro w' hSw; (try dsimp only at hSw); go_simp; first | done | with_reducible rfl)
              (try simp only [Act.put, List.setIfInBounds_toArray, List.set_cons_zero, List.set_cons_succ])
              refine wpAnyH_take (i := 21) (v := ?vh221) (by simp; rfl) (by kernel_rfl) (by kernel_rfl) (by kernel_rfl) (fun _ _ _ h => h) (Or.inl ⟨by rfl, ?yh221⟩) (by assumption) ?rh221
              case yh221 => (intro w' hSw; (try dsimp only at hSw); go_simp; first | done | with_reducible rfl)
              (try simp only [Act.put, List.setIfInBounds_toArray, List.set_cons_zero, List.set_cons_succ])
              refine wpAnyH_take (i := 22) (v := ?vh222) (by simp; rfl) (by kernel_rfl) (by kernel_rfl) (by kernel_rfl) (fun _ _ _ h => h) (Or.inl ⟨by rfl, ?yh222⟩) (by assumption) ?rh222
              case yh222 => (intro w' hSw; (try dsimp only at hSw); go_simp; first | done | with_reducible rfl)
              (try simp only [Act.put, List.setIfInBounds_toArray, List.set_cons_zero, List.set_cons_succ])
              refine wpAnyH_ready (rs := [13]) (by kernel_rfl) (by simp) ?_
              refine AllReadyH.cons (by simp; rfl) (fun K hK => ?_) AllReadyH.nil
              go_simp
              (go_at_call 46; (with_reducible refine (cr_times w m n ba bb hba hbb htd i k _ hi4 hk4 (by (repeat' (first | (with_reducible assumption) | (with_reducible apply CR.alloc) | (with_reducible apply CR.drewN) | (with_reducible apply CR.drew))))).mono ?_); rintro e wd ⟨rfl, hC⟩; have hB := hC.B; have hl := hC.s.lt)
              refine hK.out _ _ ?_ (fun hHeld => ?_)
              · (try dsimp only)
                refine CR.cells (w := w) ?_ hi4 hk4
                (repeat' (first | (with_reducible assumption) | (with_reducible apply CR.alloc) | (with_reducible apply CR.drewN) | (with_reducible apply CR.drew)))
              clear hK K
              (try simp only [Act.put, List.setIfInBounds_toArray, List.set_cons_zero, List.set_cons_succ])
              refine wpAnyH_ready (rs := [23]) (by kernel_rfl) (by simp) ?_
              refine AllReadyH.cons (by simp; rfl) (fun K hK => ?_) AllReadyH.nil
              go_simp
              (go_at_call 46; (with_reducible refine (cr_times w m n ba bb hba hbb htd k i _ hk4 hi4 (by (repeat' (first | (with_reducible assumption) | (with_reducible apply CR.alloc) | (with_reducible apply CR.drewN) | (with_reducible apply CR.drew))))).mono ?_); rintro e wd ⟨rfl, hC⟩; have hB := hC.B; have hl := hC.s.lt)
              refine hK.out _ _ ?_ (fun hHeld => ?_)
              · (try dsimp only)
                refine CR.cells (w := w) ?_ hi4 hk4
                (repeat' (first | (with_reducible assumption) | (with_reducible apply CR.alloc) | (with_reducible apply CR.drewN) | (with_reducible apply CR.drew)))
              clear hK K
              (try simp only [Act.put, List.setIfInBounds_toArray, List.set_cons_zero, List.set_cons_succ])
              refine wpAnyH_take (i := 24) (v := ?vh224) (by simp; rfl) (by kernel_rfl) (by kernel_rfl) (by kernel_rfl) (fun _ _ _ h => h) (Or.inl ⟨by rfl, ?yh224⟩) (by assumption) ?rh224
              case yh224 => (intro w' hSw; (try dsimp only at hSw); go_simp; first | done | with_reducible rfl)
              (try simp only [Act.put, List.setIfInBounds_toArray, List.set_cons_zero, List.set_cons_succ])
              refine wpAnyH_take (i := 25) (v := ?vh225) (by simp; rfl) (by kernel_rfl) (by kernel_rfl) (by kernel_rfl) (fun _ _ _ h => h) (Or.inl ⟨by rfl, ?yh225⟩) (by assumption) ?rh225
              case yh225 => (intro w' hSw; (try dsimp only at hSw); go_simp; first | done | with_reducible rfl)
              (try simp only [Act.put, List.setIfInBounds_toArray, List.set_cons_zero, List.set_cons_succ])
              refine wpAnyH_take (i := 26) (v := ?vh226) (by simp; rfl) (by kernel_rfl) (by kernel_rfl) (by kernel_rfl) (fun _ _ _ h => h) (Or.inl ⟨by rfl, ?yh226⟩) (by assumption) ?rh226
              case yh226 => (intro w' hSw; (try dsimp only at hSw); go_simp; first | done | with_reducible rfl)
              (try simp only [Act.put, List.setIfInBounds_toArray, List.set_cons_zero, List.set_cons_succ])
              refine wpAnyH_take (i := 27) (v := undef) (by simp; rfl) (by kernel_rfl) (by kernel_rfl) (by kernel_rfl) (fun _ _ _ h => h) (Or.inr ⟨by rfl, rfl⟩) (by assumption) ?_
              (try simp only [Act.put, List.setIfInBounds_toArray, List.set_cons_zero, List.set_cons_succ])
              refine wpAnyH_take (i := 28) (v := undef) (by simp; rfl) (by kernel_rfl) (by kernel_rfl) (by kernel_rfl) (fun _ _ _ h => h) (Or.inr ⟨by rfl, rfl⟩) (by assumption) ?_
              (try simp only [Act.put, List.setIfInBounds_toArray, List.set_cons_zero, List.set_cons_succ])
              refine wpAnyH_take (i := 29) (v := undef) (by simp; rfl) (by kernel_rfl) (by kernel_rfl) (by kernel_rfl) (fun _ _ _ h => h) (Or.inr ⟨by rfl, rfl⟩) (by assumption) ?_
              (try simp only [Act.put, List.setIfInBounds_toArray, List.set_cons_zero, List.set_cons_succ])
              refine wpAnyH_take (i := 30) (v := undef) (by simp; rfl) (by kernel_rfl) (by kernel_rfl) (by kernel_rfl) (fun _ _ _ h => h) (Or.inr ⟨by rfl, rfl⟩) (by assumption) ?_
              (try simp only [Act.put, List.setIfInBounds_toArray, List.set_cons_zero, List.set_cons_succ])
              refine wpAnyH_take (i := 31) (v := ?vh231) (by simp; rfl) (by kernel_rfl) (by kernel_rfl) (by kernel_rfl) (fun _ _ _ h => h) (Or.inl ⟨by rfl, ?yh231⟩) (by assumption) ?rh231
              case yh231 => (intro w' hSw; (try dsimp only at hSw); go_simp; first | done | with_reducible rfl)
              (try simp only [Act.put, List.setIfInBounds_toArray, List.set_cons_zero, List.set_cons_succ])
              refine wpAnyH_done (by kernel_rfl) ?_ _
              refine NoPanic.normal ?_
              go_wp2
              go_ret
              exact ⟨by (try simp only [hf]); (first | done | rfl), by exact below_⟩
            cases h3 : ((tmv m n i k).den == (tmv m n k i).den)
            · have hf : crossB m n = false := crossB_f hi4 hk4 hik (by rw [← fr_eq, h3]; simp)
              go_upto_region 8 with fail
              refine wp_region_noPanic ?_
              refine wp_region_held_drew (S := fun w' => w'.cell? ⟨ba, i * 3, none⟩ = some (.int .i64 (mf m i).re) ∧ w'.cell? ⟨ba, i * 3 + 1, none⟩ = some (.int .i64 (mf m i).im) ∧ w'.cell? ⟨ba, i * 3 + 2, none⟩ = some (.int .i64 (mf m i).den) ∧ w'.cell? ⟨bb, k * 3, none⟩ = some (.int .i64 (mf n k).re) ∧ w'.cell? ⟨bb, k * 3 + 1, none⟩ = some (.int .i64 (mf n k).im) ∧ w'.cell? ⟨bb, k * 3 + 2, none⟩ = some (.int .i64 (mf n k).den) ∧ w'.cell? ⟨ba, k * 3, none⟩ = some (.int .i64 (mf m k).re) ∧ w'.cell? ⟨ba, k * 3 + 1, none⟩ = some (.int .i64 (mf m k).im) ∧ w'.cell? ⟨ba, k * 3 + 2, none⟩ = some (.int .i64 (mf m k).den) ∧ w'.cell? ⟨bb, i * 3, none⟩ = some (.int .i64 (mf n i).re) ∧ w'.cell? ⟨bb, i * 3 + 1, none⟩ = some (.int .i64 (mf n i).im) ∧ w'.cell? ⟨bb, i * 3 + 2, none⟩ = some (.int .i64 (mf n i).den)) (by kernel_rfl) ?_ (fun hHeld => ?_)
              · (try dsimp only)
                refine CR.cells (w := w) ?_ hi4 hk4
                (repeat' (first | (with_reducible assumption) | (with_reducible apply CR.alloc) | (with_reducible apply CR.drewN) | (with_reducible apply CR.drew)))
              refine wpAnyH_take (i := 0) (v := ?vh30) (by simp; rfl) (by kernel_rfl) (by kernel_rfl) (by kernel_rfl) (fun _ _ _ h => h) (Or.inl ⟨by rfl, ?yh30⟩) (by assumption) ?rh30
              case yh30 => (intro w' hSw; (try dsimp only at hSw); go_simp; first | done | with_reducible rfl)
              (try simp only [Act.put, List.setIfInBounds_toArray, List.set_cons_zero, List.set_cons_succ])
              refine wpAnyH_take (i := 1) (v := ?vh31) (by simp; rfl) (by kernel_rfl) (by kernel_rfl) (by kernel_rfl) (fun _ _ _ h => h) (Or.inl ⟨by rfl, ?yh31⟩) (by assumption) ?rh31
              case yh31 => (intro w' hSw; (try dsimp only at hSw); go_simp; first | done | with_reducible rfl)
              (try simp only [Act.put, List.setIfInBounds_toArray, List.set_cons_zero, List.set_cons_succ])
              refine wpAnyH_take (i := 2) (v := ?vh32) (by simp; rfl) (by kernel_rfl) (by kernel_rfl) (by kernel_rfl) (fun _ _ _ h => h) (Or.inl ⟨by rfl, ?yh32⟩) (by assumption) ?rh32
              case yh32 => (intro w' hSw; (try dsimp only at hSw); go_simp; first | done | with_reducible rfl)
              (try simp only [Act.put, List.setIfInBounds_toArray, List.set_cons_zero, List.set_cons_succ])
              refine wpAnyH_take (i := 3) (v := ?vh33) (by simp; rfl) (by kernel_rfl) (by kernel_rfl) (by kernel_rfl) (fun _ _ _ h => h) (Or.inl ⟨by rfl, ?yh33⟩) (by assumption) ?rh33
              case yh33 => (intro w' hSw; (try dsimp only at hSw); go_simp; first | done | with_reducible rfl)
              (try simp only [Act.put, List.setIfInBounds_toArray, List.set_cons_zero, List.set_cons_succ])
              refine wpAnyH_take (i := 4) (v := ?vh34) (by simp; rfl) (by kernel_rfl) (by kernel_rfl) (by kernel_rfl) (fun _ _ _ h => h) (Or.inl ⟨by rfl, ?yh34⟩) (by assumption) ?rh34
              case yh34 => (intro w' hSw; (try dsimp only at hSw); go_simp; first | done | with_reducible rfl)
              (try simp only [Act.put, List.setIfInBounds_toArray, List.set_cons_zero, List.set_cons_succ])
              refine wpAnyH_take (i := 5) (v := ?vh35) (by simp; rfl) (by kernel_rfl) (by kernel_rfl) (by kernel_rfl) (fun _ _ _ h => h) (Or.inl ⟨by rfl, ?yh35⟩) (by assumption) ?rh35
              case yh35 => (intro w' hSw; (try dsimp only at hSw); go_simp; first | done | with_reducible rfl)
              (try simp only [Act.put, List.setIfInBounds_toArray, List.set_cons_zero, List.set_cons_succ])
              refine wpAnyH_take (i := 6) (v := ?vh36) (by simp; rfl) (by kernel_rfl) (by kernel_rfl) (by kernel_rfl) (fun _ _ _ h => h) (Or.inl ⟨by rfl, ?yh36⟩) (by assumption) ?rh36
              case yh36 => (intro w' hSw; (try dsimp only at hSw); go_simp; first | done | with_reducible rfl)
              (try simp only [Act.put, List.setIfInBounds_toArray, List.set_cons_zero, List.set_cons_succ])
              refine wpAnyH_take (i := 7) (v := ?vh37) (by simp; rfl) (by kernel_rfl) (by kernel_rfl) (by kernel_rfl) (fun _ _ _ h => h) (Or.inl ⟨by rfl, ?yh37⟩) (by assumption) ?rh37
              case yh37 => (intro w' hSw; (try dsimp only at hSw); go_simp; first | done | with_reducible rfl)
              (try simp only [Act.put, List.setIfInBounds_toArray, List.set_cons_zero, List.set_cons_succ])
              refine wpAnyH_take (i := 8) (v := ?vh38) (by simp; rfl) (by kernel_rfl) (by kernel_rfl) (by kernel_rfl) (fun _ _ _ h => h) (Or.inl ⟨by rfl, ?yh38⟩) (by assumption) ?rh38
              case yh38 => (intro w' hSw; (try dsimp only at hSw); go_simp; first | done | with_reducible rfl)
              (try simp only [Act.put, List.setIfInBounds_toArray, List.set_cons_zero, List.set_cons_succ])
              refine wpAnyH_take (i := 9) (v := ?vh39) (by simp; rfl) (by kernel_rfl) (by kernel_rfl) (by kernel_rfl) (fun _ _ _ h => h) (Or.inl ⟨by rfl, ?yh39⟩) (by assumption) ?rh39
              case yh39 => (intro w' hSw; (try dsimp only at hSw); go_simp; first | done | with_reducible rfl)
              (try simp only [Act.put, List.setIfInBounds_toArray, List.set_cons_zero, List.set_cons_succ])
              refine wpAnyH_take (i := 10) (v := ?vh310) (by simp; rfl) (by kernel_rfl) (by kernel_rfl) (by kernel_rfl) (fun _ _ _ h => h) (Or.inl ⟨by rfl, ?yh310⟩) (by assumption) ?rh310
              case yh310 => (intro w' hSw; (try dsimp only at hSw); go_simp; first | done | with_reducible rfl)
              (try simp only [Act.put, List.setIfInBounds_toArray, List.set_cons_zero, List.set_cons_succ])
              refine wpAnyH_take (i := 11) (v := ?vh311) (by simp; rfl) (by kernel_rfl) (by kernel_rfl) (by kernel_rfl) (fun _ _ _ h => h) (Or.inl ⟨by rfl, ?yh311⟩) (by assumption) ?rh311
              case yh311 => (intro w' hSw; (try dsimp only at hSw); go_simp; first | done | with_reducible rfl)
              (try simp only [Act.put, List.setIfInBounds_toArray, List.set_cons_zero, List.set_cons_succ])
              refine wpAnyH_take (i := 12) (v := ?vh312) (by simp; rfl) (by kernel_rfl) (by kernel_rfl) (by kernel_rfl) (fun _ _ _ h => h) (Or.inl ⟨by rfl, ?yh312⟩) (by assumption) ?rh312
              case yh312 => (intro w' hSw; (try dsimp only at hSw); go_simp; first | done | with_reducible rfl)
              (try simp only [Act.put, List.setIfInBounds_toArray, List.set_cons_zero, List.set_cons_succ])
              refine wpAnyH_take (i := 14) (v := ?vh314) (by simp; rfl) (by kernel_rfl) (by kernel_rfl) (by kernel_rfl) (fun _ _ _ h => h) (Or.inl ⟨by rfl, ?yh314⟩) (by assumption) ?rh314
              case yh314 => (intro w' hSw; (try dsimp only at hSw); go_simp; first | done | with_reducible rfl)
              (try simp only [Act.put, List.setIfInBounds_toArray, List.set_cons_zero, List.set_cons_succ])
              refine wpAnyH_take (i := 15) (v := ?vh315) (by simp; rfl) (by kernel_rfl) (by kernel_rfl) (by kernel_rfl) (fun _ _ _ h => h) (Or.inl ⟨by rfl, ?yh315⟩) (by assumption) ?rh315
              case yh315 => (intro w' hSw; (try dsimp only at hSw); go_simp; first | done | with_reducible rfl)
              (try simp only [Act.put, List.setIfInBounds_toArray, List.set_cons_zero, List.set_cons_succ])
              refine wpAnyH_take (i := 16) (v := ?vh316) (by simp; rfl) (by kernel_rfl) (by kernel_rfl) (by kernel_rfl) (fun _ _ _ h => h) (Or.inl ⟨by rfl, ?yh316⟩) (by assumption) ?rh316
              case yh316 => (intro w' hSw; (try dsimp only at hSw); go_simp; first | done | with_reducible rfl)
              (try simp only [Act.put, List.setIfInBounds_toArray, List.set_cons_zero, List.set_cons_succ])
              refine wpAnyH_take (i := 17) (v := ?vh317) (by simp; rfl) (by kernel_rfl) (by kernel_rfl) (by kernel_rfl) (fun _ _ _ h => h) (Or.inl ⟨by rfl, ?yh317⟩) (by assumption) ?rh317
              case yh317 => (intro w' hSw; (try dsimp only at hSw); go_simp; first | done | with_reducible rfl)
              (try simp only [Act.put, List.setIfInBounds_toArray, List.set_cons_zero, List.set_cons_succ])
              refine wpAnyH_take (i := 18) (v := ?vh318) (by simp; rfl) (by kernel_rfl) (by kernel_rfl) (by kernel_rfl) (fun _ _ _ h => h) (Or.inl ⟨by rfl, ?yh318⟩) (by assumption) ?rh318
              case yh318 => (intro w' hSw; (try dsimp only at hSw); go_simp; first | done | with_reducible rfl)
              (try simp only [Act.put, List.setIfInBounds_toArray, List.set_cons_zero, List.set_cons_succ])
              refine wpAnyH_take (i := 19) (v := ?vh319) (by simp; rfl) (by kernel_rfl) (by kernel_rfl) (by kernel_rfl) (fun _ _ _ h => h) (Or.inl ⟨by rfl, ?yh319⟩) (by assumption) ?rh319
              case yh319 => (intro w' hSw; (try dsimp only at hSw); go_simp; first | done | with_reducible rfl)
              (try simp only [Act.put, List.setIfInBounds_toArray, List.set_cons_zero, List.set_cons_succ])
              refine wpAnyH_take (i := 20) (v := ?vh320) (by simp; rfl) (by kernel_rfl) (by kernel_rfl) (by kernel_rfl) (fun _ _ _ h => h) (Or.inl ⟨by rfl, ?yh320⟩) (by assumption) ?rh320
              case yh320 => (intro w' hSw; (try dsimp only at hSw); go_simp; first | done | with_reducible rfl)
              (try simp only [Act.put, List.setIfInBounds_toArray, List.set_cons_zero, List.set_cons_succ])
              refine wpAnyH_take (i := 21) (v := ?vh321) (by simp; rfl) (by kernel_rfl) (by kernel_rfl) (by kernel_rfl) (fun _ _ _ h => h) (Or.inl ⟨by rfl, ?yh321⟩) (by assumption) ?rh321
              case yh321 => (intro w' hSw; (try dsimp only at hSw); go_simp; first | done | with_reducible rfl)
              (try simp only [Act.put, List.setIfInBounds_toArray, List.set_cons_zero, List.set_cons_succ])
              refine wpAnyH_take (i := 22) (v := ?vh322) (by simp; rfl) (by kernel_rfl) (by kernel_rfl) (by kernel_rfl) (fun _ _ _ h => h) (Or.inl ⟨by rfl, ?yh322⟩) (by assumption) ?rh322
              case yh322 => (intro w' hSw; (try dsimp only at hSw); go_simp; first | done | with_reducible rfl)
              (try simp only [Act.put, List.setIfInBounds_toArray, List.set_cons_zero, List.set_cons_succ])
              refine wpAnyH_ready (rs := [13]) (by kernel_rfl) (by simp) ?_
              refine AllReadyH.cons (by simp; rfl) (fun K hK => ?_) AllReadyH.nil
              go_simp
              (go_at_call 46; (with_reducible refine (cr_times w m n ba bb hba hbb htd i k _ hi4 hk4 (by (repeat' (first | (with_reducible assumption) | (with_reducible apply CR.alloc) | (with_reducible apply CR.drewN) | (with_reducible apply CR.drew))))).mono ?_); rintro e wd ⟨rfl, hC⟩; have hB := hC.B; have hl := hC.s.lt)
              refine hK.out _ _ ?_ (fun hHeld => ?_)
              · (try dsimp only)
                refine CR.cells (w := w) ?_ hi4 hk4
                (repeat' (first | (with_reducible assumption) | (with_reducible apply CR.alloc) | (with_reducible apply CR.drewN) | (with_reducible apply CR.drew)))
              clear hK K
              (try simp only [Act.put, List.setIfInBounds_toArray, List.set_cons_zero, List.set_cons_succ])
              refine wpAnyH_ready (rs := [23]) (by kernel_rfl) (by simp) ?_
              refine AllReadyH.cons (by simp; rfl) (fun K hK => ?_) AllReadyH.nil
              go_simp
              (go_at_call 46; (with_reducible refine (cr_times w m n ba bb hba hbb htd k i _ hk4 hi4 (by (repeat' (first | (with_reducible assumption) | (with_reducible apply CR.alloc) | (with_reducible apply CR.drewN) | (with_reducible apply CR.drew))))).mono ?_); rintro e wd ⟨rfl, hC⟩; have hB := hC.B; have hl := hC.s.lt)
              refine hK.out _ _ ?_ (fun hHeld => ?_)
              · (try dsimp only)
                refine CR.cells (w := w) ?_ hi4 hk4
                (repeat' (first | (with_reducible assumption) | (with_reducible apply CR.alloc) | (with_reducible apply CR.drewN) | (with_reducible apply CR.drew)))
              clear hK K
              (try simp only [Act.put, List.setIfInBounds_toArray, List.set_cons_zero, List.set_cons_succ])
              refine wpAnyH_take (i := 24) (v := ?vh324) (by simp; rfl) (by kernel_rfl) (by kernel_rfl) (by kernel_rfl) (fun _ _ _ h => h) (Or.inl ⟨by rfl, ?yh324⟩) (by assumption) ?rh324
              case yh324 => (intro w' hSw; (try dsimp only at hSw); go_simp; first | done | with_reducible rfl)
              (try simp only [Act.put, List.setIfInBounds_toArray, List.set_cons_zero, List.set_cons_succ])
              refine wpAnyH_take (i := 25) (v := ?vh325) (by simp; rfl) (by kernel_rfl) (by kernel_rfl) (by kernel_rfl) (fun _ _ _ h => h) (Or.inl ⟨by rfl, ?yh325⟩) (by assumption) ?rh325
              case yh325 => (intro w' hSw; (try dsimp only at hSw); go_simp; first | done | with_reducible rfl)
              (try simp only [Act.put, List.setIfInBounds_toArray, List.set_cons_zero, List.set_cons_succ])
              refine wpAnyH_take (i := 26) (v := ?vh326) (by simp; rfl) (by kernel_rfl) (by kernel_rfl) (by kernel_rfl) (fun _ _ _ h => h) (Or.inl ⟨by rfl, ?yh326⟩) (by assumption) ?rh326
              case yh326 => (intro w' hSw; (try dsimp only at hSw); go_simp; first | done | with_reducible rfl)
              (try simp only [Act.put, List.setIfInBounds_toArray, List.set_cons_zero, List.set_cons_succ])
              refine wpAnyH_take (i := 27) (v := undef) (by simp; rfl) (by kernel_rfl) (by kernel_rfl) (by kernel_rfl) (fun _ _ _ h => h) (Or.inr ⟨by rfl, rfl⟩) (by assumption) ?_
              (try simp only [Act.put, List.setIfInBounds_toArray, List.set_cons_zero, List.set_cons_succ])
              refine wpAnyH_take (i := 28) (v := undef) (by simp; rfl) (by kernel_rfl) (by kernel_rfl) (by kernel_rfl) (fun _ _ _ h => h) (Or.inr ⟨by rfl, rfl⟩) (by assumption) ?_
              (try simp only [Act.put, List.setIfInBounds_toArray, List.set_cons_zero, List.set_cons_succ])
              refine wpAnyH_take (i := 29) (v := undef) (by simp; rfl) (by kernel_rfl) (by kernel_rfl) (by kernel_rfl) (fun _ _ _ h => h) (Or.inr ⟨by rfl, rfl⟩) (by assumption) ?_
              (try simp only [Act.put, List.setIfInBounds_toArray, List.set_cons_zero, List.set_cons_succ])
              refine wpAnyH_take (i := 30) (v := undef) (by simp; rfl) (by kernel_rfl) (by kernel_rfl) (by kernel_rfl) (fun _ _ _ h => h) (Or.inr ⟨by rfl, rfl⟩) (by assumption) ?_
              (try simp only [Act.put, List.setIfInBounds_toArray, List.set_cons_zero, List.set_cons_succ])
              refine wpAnyH_take (i := 31) (v := ?vh331) (by simp; rfl) (by kernel_rfl) (by kernel_rfl) (by kernel_rfl) (fun _ _ _ h => h) (Or.inl ⟨by rfl, ?yh331⟩) (by assumption) ?rh331
              case yh331 => (intro w' hSw; (try dsimp only at hSw); go_simp; first | done | with_reducible rfl)
              (try simp only [Act.put, List.setIfInBounds_toArray, List.set_cons_zero, List.set_cons_succ])
              refine wpAnyH_done (by kernel_rfl) ?_ _
              refine NoPanic.normal ?_
              go_wp2
              go_ret
              exact ⟨by (try simp only [hf]); (first | done | rfl), by exact below_⟩
            · have he : tmv m n i k = tmv m n k i := by
                have : (tmv m n i k == tmv m n k i) = true := by rw [← fr_eq, h1, h2, h3]; rfl
                exact eq_of_beq this
              go_upto_region 8 with fail
              go_region_held3 (fun w' => w'.cell? ⟨ba, i * 3, none⟩ = some (.int .i64 (mf m i).re) ∧ w'.cell? ⟨ba, i * 3 + 1, none⟩ = some (.int .i64 (mf m i).im) ∧ w'.cell? ⟨ba, i * 3 + 2, none⟩ = some (.int .i64 (mf m i).den) ∧ w'.cell? ⟨bb, k * 3, none⟩ = some (.int .i64 (mf n k).re) ∧ w'.cell? ⟨bb, k * 3 + 1, none⟩ = some (.int .i64 (mf n k).im) ∧ w'.cell? ⟨bb, k * 3 + 2, none⟩ = some (.int .i64 (mf n k).den) ∧ w'.cell? ⟨ba, k * 3, none⟩ = some (.int .i64 (mf m k).re) ∧ w'.cell? ⟨ba, k * 3 + 1, none⟩ = some (.int .i64 (mf m k).im) ∧ w'.cell? ⟨ba, k * 3 + 2, none⟩ = some (.int .i64 (mf m k).den) ∧ w'.cell? ⟨bb, i * 3, none⟩ = some (.int .i64 (mf n i).re) ∧ w'.cell? ⟨bb, i * 3 + 1, none⟩ = some (.int .i64 (mf n i).im) ∧ w'.cell? ⟨bb, i * 3 + 2, none⟩ = some (.int .i64 (mf n i).den) ∧ w'.cell? ⟨w.heap.size, 0, none⟩ = some (.bool false)) ((refine CR.cells1 (w := w) ?_ hi4 hk4; (repeat' (first | (with_reducible assumption) | (with_reducible apply CR.alloc) | (with_reducible apply CR.drewN) | (with_reducible apply CR.drew))))) (first | (go_at_call 46; (with_reducible refine (cr_times w m n ba bb hba hbb htd i k _ hi4 hk4 (by (repeat' (first | (with_reducible assumption) | (with_reducible apply CR.alloc) | (with_reducible apply CR.drewN) | (with_reducible apply CR.drew))))).mono ?_); rintro e wd ⟨rfl, hC⟩; have hB := hC.B; have hl := hC.s.lt) | (go_at_call 46; (with_reducible refine (cr_times w m n ba bb hba hbb htd k i _ hk4 hi4 (by (repeat' (first | (with_reducible assumption) | (with_reducible apply CR.alloc) | (with_reducible apply CR.drewN) | (with_reducible apply CR.drew))))).mono ?_); rintro e wd ⟨rfl, hC⟩; have hB := hC.B; have hl := hC.s.lt))
              all_goals (
                go_wp2
                go_roundw
                case rel => exact ⟨k + 1, by omega, by go_num, Lib.hid (hro.out.next fun _ => he), by (repeat' (first | (with_reducible assumption) | (with_reducible apply CR.alloc) | (with_reducible apply CR.drewN) | (with_reducible apply CR.drew)))⟩
                case measure => simp [intOf]; omega)
        · obtain rfl : k = 4 := by omega
          go_wp2
          go_roundw
          case rel => exact ⟨i + 1, by omega, by go_num, Lib.hid (hrw.out.next hro.out), hC⟩
          case measure => simp [intOf]; omega
    · obtain rfl : i = 4 := by omega
      go_wp2
      go_ret
      exact ⟨by rw [crossB_t hrw.out]; rfl, by exact below_⟩
end Go.Proofs.YtiagnnmnaakmoaaDoor
