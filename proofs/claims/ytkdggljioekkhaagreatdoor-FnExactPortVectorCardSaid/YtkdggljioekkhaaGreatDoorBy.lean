/-
  The walk of the reference's cutting of a text.
-/
import Derived.Test.YtkdggljioekkhaaGreatDoorBx
import Derived.Test.YtkdggljioekkhaaGreatDoorBm
namespace Go.Proofs.YtkdggljioekkhaaGreatDoor
set_option linter.unusedSimpArgs false
set_option linter.unusedVariables false
open Go.RowKit
attribute [local go_sem ↓] Go.wp_at_zero Go.wp_at_succ
theorem cutL_one {c : UInt8} : ∀ {x : List UInt8}, (∀ b ∈ x, b ≠ c) → cutL c x = [x]
  | [], _ => rfl
  | b :: r, h => cutL_cons (h b (List.mem_cons_self ..)) (cutL_one fun d hd => h d (List.mem_cons_of_mem _ hd))
theorem cutL_at {c : UInt8} {r : List UInt8} : ∀ {x : List UInt8}, (∀ b ∈ x, b ≠ c) → cutL c (x ++ c :: r) = x :: cutL c r
  | [], _ => by rw [List.nil_append, cutL, if_pos rfl]
  | b :: y, h => by
    rw [List.cons_append]
    exact cutL_cons (h b (List.mem_cons_self ..)) (cutL_at fun d hd => h d (List.mem_cons_of_mem _ hd))
/-- What the cutting of l at c knows at place i: the words ps lie behind it, the next begins at f. -/
def Ct (l : List UInt8) (c : UInt8) (i f : Nat) (ps : List (List UInt8)) : Prop :=
  ps.length ≤ f ∧ ((i ≤ l.length ∧ f ≤ i ∧ cutL c l = ps ++ cutL c (l.drop f) ∧ ∀ b ∈ l.extract f i, b ≠ c) ∨ (i = l.length + 1 ∧ cutL c l = ps))
theorem Ct.start (l : List UInt8) (c : UInt8) : Ct l c 0 0 [] := ⟨Nat.le_refl _, .inl ⟨Nat.zero_le _, Nat.le_refl _, rfl, by simp⟩⟩
theorem ext_split {l : List UInt8} {f i : Nat} {b : UInt8} (hf : f ≤ i) (hb : l[i]? = some b) : l.drop f = l.extract f i ++ b :: l.drop (i + 1) := by
  obtain ⟨hi, rfl⟩ := List.getElem?_eq_some_iff.1 hb
  have h1 : l.drop f = (l.drop f).take (i - f) ++ (l.drop f).drop (i - f) := (List.take_append_drop _ _).symm
  rw [List.drop_drop, show f + (i - f) = i from by omega, List.drop_eq_getElem_cons hi] at h1
  rw [List.extract_eq_take_drop]
  exact h1
theorem Ct.step {l : List UInt8} {c b : UInt8} {i f : Nat} {ps : List (List UInt8)} (h : Ct l c i f ps) (hb : l[i]? = some b) (hne : b ≠ c) : Ct l c (i + 1) f ps := by
  have hi := (List.getElem?_eq_some_iff.1 hb).1
  obtain ⟨h0, ⟨h1, h2, h3, h4⟩ | ⟨h1, _⟩⟩ := h
  · refine ⟨h0, .inl ⟨by omega, by omega, h3, fun d hd => ?_⟩⟩
    rw [List.extract_eq_take_drop] at hd h4
    rw [show i + 1 - f = (i - f) + 1 from by omega, List.take_add_one, List.mem_append] at hd
    rcases hd with hd | hd
    · exact h4 d hd
    · rw [List.getElem?_drop, show f + (i - f) = i from by omega, hb] at hd
      simp at hd
      exact hd ▸ hne
  · omega
theorem Ct.cut {l : List UInt8} {c : UInt8} {i f : Nat} {ps : List (List UInt8)} (h : Ct l c i f ps) (hb : l[i]? = some c) : Ct l c (i + 1) (i + 1) (ps ++ [l.extract f i]) := by
  have hi := (List.getElem?_eq_some_iff.1 hb).1
  obtain ⟨h0, ⟨h1, h2, h3, h4⟩ | ⟨h1, _⟩⟩ := h
  · refine ⟨by simp; omega, .inl ⟨by omega, Nat.le_refl _, ?_, by simp⟩⟩
    rw [h3, ext_split h2 hb, cutL_at h4, List.append_assoc, List.singleton_append]
  · omega
theorem Ct.last {l : List UInt8} {c : UInt8} {f : Nat} {ps : List (List UInt8)} (h : Ct l c l.length f ps) : Ct l c (l.length + 1) (l.length + 1) (ps ++ [l.extract f l.length]) := by
  obtain ⟨h0, ⟨h1, h2, h3, h4⟩ | ⟨h1, _⟩⟩ := h
  · refine ⟨by simp; omega, .inr ⟨rfl, ?_⟩⟩
    have he : l.drop f = l.extract f l.length := by rw [List.extract_eq_take_drop, List.take_of_length_le (by simp)]
    rw [h3, he, cutL_one h4]
  · omega
theorem Ct.done {l : List UInt8} {c : UInt8} {i f : Nat} {ps : List (List UInt8)} (h : Ct l c i f ps) (hi : ¬ i ≤ l.length) : cutL c l = ps := by
  obtain ⟨_, ⟨h1, _⟩ | ⟨_, h2⟩⟩ := h
  · omega
  · exact h2
theorem Ct.from_le {l : List UInt8} {c : UInt8} {i f : Nat} {ps : List (List UInt8)} (h : Ct l c i f ps) (hi : i ≤ l.length) : f ≤ i ∧ ps.length ≤ f := by
  obtain ⟨h0, ⟨_, h2, _⟩ | ⟨h1, _⟩⟩ := h
  · exact ⟨h2, h0⟩
  · omega
theorem ext_l (l : List UInt8) (f i : Nat) : (⟨l.toArray⟩ : ByteArray).extract f i = ⟨(l.extract f i).toArray⟩ := by
  apply ByteArray.ext
  rw [ByteArray.data_extract]
  simp
/-- What the loop of l7Cut keeps. -/
structure CW (w : World) (l : List UInt8) (c : UInt8) (v : Value) (i f : Nat) (ps : List (List UInt8)) (W : World) : Prop where
  B : Below w.heap.size w W
  o : OwT w.heap.size v ps W
  t : Ct l c i f ps
section
variable {w W W' : World} {l : List UInt8} {c : UInt8} {v v' : Value} {i f i' f' : Nat} {ps ps' : List (List UInt8)}
theorem CW.below (h : CW w l c v i f ps W) (hb : Below W.heap.size W W') : CW w l c v i f ps W' := ⟨bstep h.B hb h.B.size, h.o.below hb, h.t⟩
theorem CW.grown (h : CW w l c v i f ps W) (hg : W.grownBy W' v.ownBlock) (ho : OwT w.heap.size v' ps' W') (ht : Ct l c i' f' ps') : CW w l c v' i' f' ps' W' :=
  ⟨Below.grown h.B hg h.B.size (fun k e => (h.o.lt k e).1), ho, ht⟩
theorem CW.next (h : CW w l c v i f ps W) (ht : Ct l c i' f' ps) : CW w l c v i' f' ps W := ⟨h.B, h.o, ht⟩
end
theorem OwT.slice {base : Nat} {v : Value} {ts : List (List UInt8)} {w : World} (h : OwT base v ts w) : ∃ A cap, v = .slice A ts.length cap := by
  rcases Nat.eq_zero_or_pos ts.length with h0 | h0
  · rcases h with ⟨_, h1 | ⟨b, cap, xs, h1, _⟩⟩
    · exact ⟨_, _, by rw [h0]; exact h1.1⟩
    · exact ⟨_, _, h1⟩
  · obtain ⟨g, cap, h1, _⟩ := h.at h0
    exact ⟨_, _, h1⟩
set_option maxRecDepth 100000 in
set_option maxHeartbeats 8000000 in
theorem scut_any (l : List UInt8) (c : UInt8) (hl : l.length ≤ 1048576) (w : World) :
    Calls Tryz.prog 91 #[.string ⟨l.toArray⟩, .int .u8 (c.toNat : Int)] w fun e w' => ∃ v, e = .returned v ∧ OwT w.heap.size v (cutL c l) w' ∧ Below w.heap.size w w' := by
  have hsz : (⟨l.toArray⟩ : ByteArray).size = l.length := by rw [Lib.size_eq]
  have hm := OwT.made w w.heap.size (Nat.le_refl _)
  go_enter Tryz.func91, Tryz.ntmps91
  go_upto_region 4 with fail
  have hC0 : CW w l c (.slice (some ⟨w.heap.size, 0, none⟩) 0 0) 0 0 [] (w.alloc (.cells #[] 9)) := ⟨by exact below_, hm, Ct.start l c⟩
  clear hm
  go_loopw [5, 6, 7] (fun v fv iv wr => ∃ (i f : Nat) (ps : List (List UInt8)), i ≤ l.length + 1 ∧ iv = .int .i64 i ∧ fv = .int .i64 f ∧ CW w l c v i f ps wr) (fun _ _ iv _ => l.length + 1 - (intOf iv).toNat)
  case atStart => exact ⟨0, 0, [], Nat.zero_le _, rfl, rfl, hC0⟩
  case round =>
    clear hC0
    obtain ⟨i, f, ps, hi, rfl, rfl, hC⟩ := hrel
    obtain ⟨A, cap, hv0⟩ := hC.o.slice
    subst hv0
    have hzw := hC.B.size
    have hiw : IntKind.i64.wrap ((i : Int) + 1) = (i : Int) + 1 := IntWalk.i64_in _ (by omega)
    by_cases hil : i ≤ l.length
    · obtain ⟨hfi, hpf⟩ := hC.t.from_le hil
      have hlen : ps.length + 1 < 4000000 := by omega
      have hfi' : (f : Int) ≤ i := by omega
      have hil' : (i : Int) ≤ l.length := by omega
      by_cases hie : i = l.length
      · subst hie
        have hC2 := hC.below ((Below.refl _ _).alloc (Nat.le_refl _) (.cells #[.string ((⟨l.toArray⟩ : ByteArray).extract f l.length)] 9))
        have hzw2 := hC2.B.size
        have HT := Lib.hid hC.t.last
        clear hC
        go_wp2_with (at_builtin; refine wpList_appT rfl (.tmp 26) (.tmp 31) rfl w.heap.size (.slice A ps.length cap) ps (wr.alloc (.cells #[.string ((⟨l.toArray⟩ : ByteArray).extract f l.length)] 9)) (by rfl) hC2.o wr.heap.size 1 (l.extract f l.length) ((⟨l.toArray⟩ : ByteArray).extract f l.length) (by rfl) (World.cell?_alloc_at _ _ _ _ rfl) (ext_l l f l.length) hlen hzw2 ?_; intro v2 w3 hO3 hg3; refine Hid.out ?_)
        refine Lib.hid ?_
        have hC3 := hC2.grown hg3 hO3 HT.out
        clear hO3 hg3 hC2
        go_wp2
        go_roundw
        case rel => exact ⟨l.length + 1, l.length + 1, ps ++ [l.extract f l.length], Nat.le_refl _, by go_num, by go_num, hC3⟩
        case measure => simp [intOf] <;> omega
      · obtain ⟨b, hb⟩ : ∃ b, l[i]? = some b := ⟨_, List.getElem?_eq_getElem (by omega)⟩
        have hix := idx_l l i b hb
        have hie' : ((i : Int) == (l.length : Int)) = false := by rw [beq_eq_false_iff_ne]; omega
        have HB := Lib.hid hb
        clear hb
        by_cases hbc : b = c
        · subst hbc
          have hC2 := hC.below ((Below.refl _ _).alloc (Nat.le_refl _) (.cells #[.string ((⟨l.toArray⟩ : ByteArray).extract f i)] 9))
          have hzw2 := hC2.B.size
          have HT := Lib.hid (hC.t.cut HB.out)
          clear hC
          go_wp2_with (at_builtin; refine wpList_appT rfl (.tmp 26) (.tmp 31) rfl w.heap.size (.slice A ps.length cap) ps (wr.alloc (.cells #[.string ((⟨l.toArray⟩ : ByteArray).extract f i)] 9)) (by rfl) hC2.o wr.heap.size 1 (l.extract f i) ((⟨l.toArray⟩ : ByteArray).extract f i) (by rfl) (World.cell?_alloc_at _ _ _ _ rfl) (ext_l l f i) hlen hzw2 ?_; intro v2 w3 hO3 hg3; refine Hid.out ?_)
          refine Lib.hid ?_
          have hC3 := hC2.grown hg3 hO3 HT.out
          clear hO3 hg3 hC2
          go_wp2
          go_roundw
          case rel => exact ⟨i + 1, i + 1, ps ++ [l.extract f i], by omega, by go_num, by go_num, hC3⟩
          case measure => simp [intOf] <;> omega
        · have hbc' : ((b.toNat : Int) == (c.toNat : Int)) = false := by rw [beq_eq_false_iff_ne]; exact fun h => hbc (UInt8.toNat_inj.1 (by omega))
          have hC3 := hC.next (hC.t.step HB.out hbc)
          clear hC hbc
          go_wp2
          go_roundw
          case rel => exact ⟨i + 1, f, ps, by omega, by go_num, rfl, hC3⟩
          case measure => simp [intOf] <;> omega
    · have hd := Lib.hid (hC.t.done hil)
      have hil' : ¬ (i : Int) ≤ l.length := by omega
      go_wp2
      go_ret
      exact ⟨_, rfl, by rw [hd.out]; exact hC.o, hC.B⟩
end Go.Proofs.YtkdggljioekkhaaGreatDoor
