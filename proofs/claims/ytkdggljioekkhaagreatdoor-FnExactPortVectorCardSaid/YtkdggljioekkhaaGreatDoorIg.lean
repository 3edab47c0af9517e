/-
  The walk of the reference's PortFringes.
-/
import Derived.Test.YtkdggljioekkhaaGreatDoorIe
import Derived.Test.YtkdggljioekkhaaGreatDoorLh
import Derived.Test.YtkdggljioekkhaaGreatDoorMn
namespace Go.Proofs.YtkdggljioekkhaaGreatDoor
set_option linter.unusedSimpArgs false
set_option linter.unusedVariables false
open Go.RowKit
attribute [local go_sem ↓] Go.wp_at_zero Go.wp_at_succ
theorem fringe_yes {a b : List UInt8} {v X : Jn} {k : Int} {F : Fr} {p q : Bool} (hX : (portI a b k v false).getD Z6 = X ∧ (portI a b k v false).isSome = p) (hF : (jpowerI X).getD Z3 = F ∧ (jpowerI X).isSome = q) (hp : p = true) (hq : q = true) : fringeI a b v k = some F := by
  unfold fringeI
  cases h1 : portI a b k v false with
  | none => rw [h1] at hX; rw [← hX.2] at hp; cases hp
  | some x =>
    rw [h1] at hX
    obtain rfl : x = X := hX.1
    rw [Option.bind_some]
    cases h2 : jpowerI x with
    | none => rw [h2] at hF; rw [← hF.2] at hq; cases hq
    | some f =>
      rw [h2] at hF
      obtain rfl : f = F := hF.1
      rfl
theorem fringe_no {a b : List UInt8} {v X : Jn} {k : Int} {F : Fr} {p q : Bool} (hX : (portI a b k v false).getD Z6 = X ∧ (portI a b k v false).isSome = p) (hF : (jpowerI X).getD Z3 = F ∧ (jpowerI X).isSome = q) (hpq : p = false ∨ q = false) : fringeI a b v k = none := by
  unfold fringeI
  cases h1 : portI a b k v false with
  | none => rfl
  | some x =>
    rw [h1] at hX
    obtain rfl : x = X := hX.1
    rw [Option.bind_some]
    cases h2 : jpowerI x with
    | none => rfl
    | some f =>
      rw [h2] at hF
      rcases hpq with hp | hq
      · rw [← hX.2] at hp; cases hp
      · rw [← hF.2] at hq; cases hq
theorem four_at {k : Nat} (h : k < 4) : ([0, 1, 2, 3] : List Int)[k]? = some (k : Int) := by
  rcases (show k = 0 ∨ k = 1 ∨ k = 2 ∨ k = 3 by omega) with rfl | rfl | rfl | rfl <;> rfl
theorem fringes_no {a b : List UInt8} {v : Jn} {k : Nat} (h : k < 4) (hn : fringeI a b v k = none) : fringesI a b v = none := allM_none (four_at h) hn
/-- What the loop over the phases keeps. -/
structure FW (w : World) (v : Jn) (lv : Value) (fs : List Fr) (W : World) : Prop where
  B : Below w.heap.size w W
  j : Blk W w.heap.size (jc v) 28
  o : OwF (w.heap.size + 1) lv fs W
theorem FW.below {w W W' : World} {v : Jn} {lv : Value} {fs : List Fr} (h : FW w v lv fs W) (hb : Below W.heap.size W W') : FW w v lv fs W' :=
  ⟨bstep h.B hb h.B.size, (hb.block _ (blk_lt h.j)).trans h.j, h.o.below hb⟩
theorem FW.grown {w W W' : World} {v : Jn} {lv lv' : Value} {fs fs' : List Fr} (h : FW w v lv fs W) (hg : W.grownBy W' lv.ownBlock) (hO : OwF (w.heap.size + 1) lv' fs' W') : FW w v lv' fs' W' :=
  ⟨below_ownF h.B h.o (by omega) hg, (hg.block _ (blk_lt h.j) (fun e => by have := (h.o.lt _ e.symm).1; omega)).trans h.j, hO⟩
theorem sport_m (a b : ByteArray) (k : Int) (v : Jn) (s : Bool) (X : Jn) (p : Bool) (w : World) (e : Hid ((portI a.data.toList b.data.toList k v s).getD Z6 = X ∧ (portI a.data.toList b.data.toList k v s).isSome = p)) :
    Calls Tryz.prog 11 #[.string a, .string b, .int .i64 k, jnv v, .bool s] w fun e w' => e = .returned (.tuple #[jnv X, .bool p]) ∧ Below w.heap.size w w' := by
  rw [← e.out.1, ← e.out.2]; exact sport_any a b k v s w
theorem sjpower_m (a : Jn) (F : Fr) (q : Bool) (w : World) (e : Hid ((jpowerI a).getD Z3 = F ∧ (jpowerI a).isSome = q)) :
    Calls Tryz.prog 46 #[jnv a] w fun e w' => e = .returned (.tuple #[frv F, .bool q]) ∧ Below w.heap.size w w' := by
  rw [← e.out.1, ← e.out.2]; exact sjpower_any a w
set_option maxRecDepth 100000 in
set_option maxHeartbeats 8000000 in
theorem sfringes_any (a b : ByteArray) (v : Jn) (w : World) :
    Calls Tryz.prog 25 #[.string a, .string b, jnv v] w fun e w' => ∃ lv, e = .returned (.tuple #[lv, .bool (fringesI a.data.toList b.data.toList v).isSome]) ∧ OwF w.heap.size lv ((fringesI a.data.toList b.data.toList v).getD []) w' ∧ Below w.heap.size w w' := by
  obtain ⟨W0, hW0, hQ0⟩ : ∃ W, W = (w.alloc (.cells #[.int .i64 v.x.re, .int .i64 v.x.im, .int .i64 v.x.den, .int .i64 v.y.re, .int .i64 v.y.im, .int .i64 v.y.den] 28)).alloc (.cells #[] 26) ∧ FW w v (.slice (some ⟨w.heap.size + 1, 0, none⟩) 0 0) [] W := by
    refine ⟨_, rfl, by exact below_, (Below.heap_alloc _ _ _ (by simp)).trans (heap_alloc_last w _), ?_⟩
    have := OwF.made (w.alloc (.cells #[.int .i64 v.x.re, .int .i64 v.x.im, .int .i64 v.x.den, .int .i64 v.y.re, .int .i64 v.y.im, .int .i64 v.y.den] 28)) (w.heap.size + 1) (by simp)
    rwa [World.size_alloc] at this
  go_enter Tryz.func25, Tryz.ntmps25
  go_upto_region 2 with fail
  rw [← hW0]
  clear hW0
  go_upto_region 3 with fail
  go_loopw [8, 9] (fun lv iv wr => ∃ (k : Nat) (fs : List Fr), k ≤ 4 ∧ iv = .int .i64 k ∧ Hid (allM (fringeI a.data.toList b.data.toList v) (([0, 1, 2, 3] : List Int).take k) = some fs ∧ fs.length = k) ∧ FW w v lv fs wr) (fun _ iv _ => 4 - (intOf iv).toNat)
  case atStart => exact ⟨0, [], by omega, rfl, Lib.hid ⟨rfl, rfl⟩, hQ0⟩
  case round =>
    clear hQ0
    obtain ⟨k, fs, hk, rfl, hall, hQ⟩ := hrel
    have hzw := hQ.B.size
    have hkw : IntKind.i64.wrap ((k : Int) + 1) = (k : Int) + 1 := IntWalk.i64_in _ (by omega)
    by_cases hkl : k < 4
    · have hki : (k : Int) < 4 := by omega
      obtain ⟨X, p, hX⟩ : ∃ X p, (portI a.data.toList b.data.toList k v false).getD Z6 = X ∧ (portI a.data.toList b.data.toList k v false).isSome = p := ⟨_, _, rfl, rfl⟩
      obtain ⟨F, q, hF⟩ : ∃ F q, (jpowerI X).getD Z3 = F ∧ (jpowerI X).isSome = q := ⟨_, _, rfl, rfl⟩
      have HX := Lib.hid hX
      have HF := Lib.hid hF
      clear hX hF
      obtain ⟨⟨j0, j1, j2, j3, j4, j5⟩, -⟩ := blk_j hQ.j
      go_upto_region 6 with (go_at_call 11; (with_reducible refine (sport_m a b k v false X p _ HX).mono ?_); rintro e w1 ⟨rfl, hb⟩)
      have hQ1 := hQ.below hb
      clear j0 j1 j2 j3 j4 j5 hQ hb
      obtain ⟨bX, hbX⟩ : ∃ x, x = w1.heap.size := ⟨_, rfl⟩
      obtain ⟨W1, hW1, hQ2, hC⟩ : ∃ W, W = w1.alloc (.cells #[.int .i64 X.x.re, .int .i64 X.x.im, .int .i64 X.x.den, .int .i64 X.y.re, .int .i64 X.y.im, .int .i64 X.y.den] 28) ∧ FW w v _ fs W ∧ Blk W bX (jc X) 28 :=
        ⟨_, rfl, hQ1.below ((Below.refl _ _).alloc (Nat.le_refl _) _), by rw [hbX]; exact heap_alloc_last w1 _⟩
      rw [← hW1, ← hbX]
      have hzw := hQ2.B.size
      clear hW1 hbX hQ1
      cases p
      · skip
        have hn := fringes_no hkl (fringe_no HX.out HF.out (.inl rfl))
        have HE := Lib.hid hn
        have hO9 := OwF.made W1 w.heap.size hQ2.B.size
        have hB9 := hQ2.B.alloc hQ2.B.size (.cells #[] 26)
        clear hn HX HF hall hC
        go_wp2
        go_ret2
        exact ⟨_, by rw [HE.out]; rfl, by rw [HE.out]; exact hO9, hB9⟩
      obtain ⟨⟨j0, j1, j2, j3, j4, j5⟩, -⟩ := blk_j hC
      go_upto_region 9 with (go_at_call 46; (with_reducible refine (sjpower_m X F q _ HF).mono ?_); rintro e w2 ⟨rfl, hb⟩)
      have hQ3 := hQ2.below hb
      clear j0 j1 j2 j3 j4 j5 hQ2 hC hb
      obtain ⟨bF, hbF⟩ : ∃ x, x = w2.heap.size := ⟨_, rfl⟩
      obtain ⟨W2, hW2, hQ4, hC⟩ : ∃ W, W = w2.alloc (.cells #[.int .i64 F.re, .int .i64 F.im, .int .i64 F.den] 26) ∧ FW w v _ fs W ∧ Blk W bF (frc F) 26 :=
        ⟨_, rfl, hQ3.below ((Below.refl _ _).alloc (Nat.le_refl _) _), by rw [hbF]; exact heap_alloc_last w2 _⟩
      rw [← hW2, ← hbF]
      have hzw := hQ4.B.size
      clear hW2 hbF hQ3
      cases q
      · skip
        have hn := fringes_no hkl (fringe_no HX.out HF.out (.inr rfl))
        have HE := Lib.hid hn
        have hO9 := OwF.made W2 w.heap.size hQ4.B.size
        have hB9 := hQ4.B.alloc hQ4.B.size (.cells #[] 26)
        clear hn HX HF hall hC
        go_wp2
        go_ret2
        exact ⟨_, by rw [HE.out]; rfl, by rw [HE.out]; exact hO9, hB9⟩
      have HY := Lib.hid (fringe_yes HX.out HF.out rfl rfl)
      have hlen : fs.length < 4000000 := by have := hall.out.2; omega
      have HLN := Lib.hid hall.out.2
      obtain ⟨f0, f1, f2⟩ := blk_fr0 hC
      have hzo : w.heap.size + 1 ≤ W2.heap.size := by have := blk_lt hQ4.j; omega
      clear HX HF
      go_wp2_with (at_builtin; refine append_fr rfl (.tmp 38) (.tmp 40) rfl (w.heap.size + 1) _ _ _ (by rfl) hQ4.o F (by rfl) hlen hzo ?_; intro v2 w6 hO6 hg6; refine Hid.out ?_)
      refine Lib.hid ?_
      have hQ5 := hQ4.grown hg6 hO6
      clear hO6 hg6 hQ4 hC f0 f1 f2
      go_wp2
      go_roundw
      case rel => exact ⟨k + 1, fs ++ [F], by omega, by go_num, Lib.hid ⟨allM_take hall.out.1 (four_at hkl) HY.out, by rw [List.length_append, HLN.out]; rfl⟩, hQ5⟩
      case measure => simp [intOf]; omega
    · obtain rfl : k = 4 := by omega
      have he : fringesI a.data.toList b.data.toList v = some fs := hall.out.1
      have HE := Lib.hid he
      clear he
      go_wp2
      go_ret2
      exact ⟨_, by rw [HE.out]; rfl, by rw [HE.out]; exact hQ.o.mono (by omega), hQ.B⟩
end Go.Proofs.YtkdggljioekkhaaGreatDoor
