/-
  The walk of the program's reading of one number.
-/
import Derived.Test.YtkdggljioekkhaaGreatDoorSp
import Derived.Test.YtkdggljioekkhaaGreatDoorBb
import Derived.Deep.Cut
import Derived.Lib.Hide
namespace Go.Proofs.YtkdggljioekkhaaGreatDoor
set_option linter.unusedSimpArgs false
set_option linter.unusedVariables false
open Go.RowKit
theorem numI_yes {s : ByteArray} {n : Int} (h : Lib.atoiAll s.data.toList = .ok n) : (numI s.data.toList).isSome = (Lib.itoa n == s.toList) ∧ ∀ v, numI s.data.toList = some v → n = v := by
  rw [ByteArray.toList_eq]
  unfold numI
  rw [h]
  simp only
  by_cases hc : Lib.itoa n = s.data.toList
  · rw [if_pos hc]
    exact ⟨by simp [hc], fun v hv => Option.some.inj hv⟩
  · rw [if_neg hc]
    exact ⟨by simp [hc], fun v hv => by cases hv⟩
theorem numI_no {l : List UInt8} (h : ∀ v, Lib.atoiAll l ≠ .ok v) : numI l = none := by
  unfold numI
  split
  · rename_i v hv
    exact absurd hv (h v)
  · rfl
set_option maxHeartbeats 1000000 in
theorem plain_any (s : ByteArray) (w : World) (hs : s.size ≤ 281474976710656) (hG : GL w) :
    Calls Tryz.prog 126 #[.string s] w fun e w' => ∃ n, e = .returned (.tuple #[.int .i64 n, .bool (numI s.data.toList).isSome]) ∧ (∀ v, numI s.data.toList = some v → n = v) ∧ Below w.heap.size w w' := by
  go_enter Tryz.func126, Tryz.ntmps126
  go_upto_region 2 with (go_at_call 135; (with_reducible refine (atoi_c s _ hs hG).mono ?_); rintro e w1 ⟨n, ev, rfl, hcase, hb⟩)
  rcases hcase with ⟨rfl, hok⟩ | ⟨⟨t, p, rfl⟩, hno⟩
  · obtain ⟨h1, h2⟩ := numI_yes hok
    have hr := atoi_range hok
    have H1 := Lib.hid h1
    have H2 := Lib.hid h2
    clear h1 h2 hok
    go_wp2_with (go_at_call 136; (with_reducible refine (itoa_c n _ hr (hG.below hb)).mono ?_); rintro e w2 ⟨rfl, hb2⟩)
    go_ret2
    exact ⟨n, by rw [H1.out]; rfl, H2.out, bstep hb hb2 hb.size⟩
  · have h0 := Lib.hid (numI_no hno)
    clear hno
    go_wp2
    go_ret2
    exact ⟨n, (by rw [h0.out]; rfl), (fun v h => by rw [h0.out] at h; cases h), hb⟩
theorem plain_l (l : List UInt8) (ok : Bool) (w : World) (hs : l.length ≤ 281474976710656) (hG : GL w) (hok : Hid ((numI l).isSome = ok)) :
    Calls Tryz.prog 126 #[.string ⟨l.toArray⟩] w fun e w' => ∃ n, e = .returned (.tuple #[.int .i64 n, .bool ok]) ∧ Hid (∀ v, numI l = some v → n = v) ∧ Below w.heap.size w w' := by
  have h := plain_any ⟨l.toArray⟩ w (by rw [Lib.size_eq]; simpa using hs) hG
  simp only [hok.out] at h
  exact h
end Go.Proofs.YtkdggljioekkhaaGreatDoor
