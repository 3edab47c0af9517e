/-
  The walks of what turns a fibre round, program and reference.
-/
import Derived.Test.YtmaifiakjlbooaaDoorFv
namespace Go.Proofs.YtmaifiakjlbooaaDoor
set_option linter.unusedSimpArgs false
set_option linter.unusedVariables false
open Go.RowKit
/-- The section of the way back. -/
def turnS (s : Sec) : Sec := { s with ph := (4 - s.ph).tmod 4 }
def backI (xs : List Sec) : List Sec := if fibOk xs then xs.reverse.map turnS else []
/-- A new list without elements. -/
theorem Own.made (w : World) (base : Nat) (hb : base ≤ w.heap.size) : Own base (.slice (some ⟨w.heap.size, 0, none⟩) 0 0) [] (w.alloc (.cells #[] 24)) :=
  World.ownsRow_made (size := 4) w #[] 0 hb (by unfold maxLen; omega) rfl
/-- One section is put behind a list of the call's own. -/
theorem append_sec {ops : Array Oper} {rest : List Oper} {o : Oper} {a : Act} {Q : Exit → Act → World → Prop} (hgd : o.guard = none) (s x : Operand)
    (ho : o.op = .call { callee := .builtin .append, args := #[s, x], argTypes := #[35, 35] }) (base : Nat) (v : Value) (ys : List Sec) (W : World) (hs : a.eval s = v) (hO : Own base v ys W) (z : Sec)
    (hx : a.eval x = .slice (some ⟨W.heap.size, 0, none⟩) 1 1) (hlen : ys.length < 4000000) (hb : base ≤ W.heap.size)
    (h : ∀ v' w', Own base v' (ys ++ [z]) w' → W.grownBy w' v.ownBlock → wpList Tryd.prog ops Q rest (a.put o.dst v') w') :
    wpList Tryd.prog ops Q (o :: rest) a (W.alloc (.cells #[.int .i64 z.p, .int .i64 z.q, .int .i64 z.ph, .int .i64 z.t] 24)) := by
  obtain ⟨i0, hi, hz0, hz1, hz2⟩ := info_parts infoSec
  refine wpList_append_own _ hgd s x 35 ho base 24 i0 (.agg #[.int .i64 0, .int .i64 0, .int .i64 0, .int .i64 0]) 4 32 Tryd.underlying35 hi hz0 hz1 hz2 rfl (by decide) v ys.length (rowL ys) hs (hO.alloc _) ⟨W.heap.size, 0, none⟩ 1 1 (secL z) hx rfl ?_ ?_ (by unfold maxLen; omega) (by omega) (by simp; omega) ?_
  · intro j u hj
    rw [add_none]
    match j, hj with
    | 0, hj => simp [secL] at hj; subst hj; exact World.cell?_alloc_at _ _ _ _ rfl
    | 1, hj => simp [secL] at hj; subst hj; exact World.cell?_alloc_at _ _ _ _ rfl
    | 2, hj => simp [secL] at hj; subst hj; exact World.cell?_alloc_at _ _ _ _ rfl
    | 3, hj => simp [secL] at hj; subst hj; exact World.cell?_alloc_at _ _ _ _ rfl
    | n + 4, hj => simp [secL] at hj
  · intro u hu
    simp only [secL, List.mem_cons, List.not_mem_nil, or_false] at hu
    rcases hu with rfl | rfl | rfl | rfl <;> rfl
  · intro v' w' hown hgr _
    refine h v' w' ?_ (grownBy_trans (World.grownBy_alloc _ _ _) hgr)
    unfold Own
    rw [rowL_append, rowL_one, List.length_append]
    exact hown
/-- What the call made but for its own list stays as it was below. -/
theorem below_own {base : Nat} {v : Value} {ys : List Sec} {w0 W w' : World} (hB : Below w0.heap.size w0 W) (hO : Own base v ys W) (hb : w0.heap.size ≤ base) (hg : W.grownBy w' v.ownBlock) : Below w0.heap.size w0 w' :=
  hB.grown hg hB.size (fun k hk => Nat.le_trans hb (hO.lt k hk).1)
theorem drop_rev {xs : List Sec} {j : Nat} {s : Sec} (h : xs[j]? = some s) : (xs.drop (j + 1)).reverse ++ [s] = (xs.drop j).reverse := by
  have hj := (List.getElem?_eq_some_iff.1 h).1
  rw [List.drop_eq_getElem_cons hj, List.reverse_cons]
  rw [List.getElem?_eq_getElem hj] at h
  rw [Option.some.inj h]
set_option maxRecDepth 100000 in
set_option maxHeartbeats 1000000 in
theorem reversed_any (A : Option Addr) (len cap : Nat) (xs : List Sec) (w : World) (h : Secs A len cap xs w) (hbig : len ≤ 1048576) :
    Calls Tryd.prog 71 #[.slice A len cap] w fun e w' => ∃ v, e = .returned v ∧ Own w.heap.size v xs.reverse w' ∧ Below w.heap.size w w' := by
  have hl := h.2.1
  have hm := h.2.2.1
  have hxl := Lib.hid h.1
  have hO := Own.made w w.heap.size (Nat.le_refl _)
  go_enter Tryd.func71, Tryd.ntmps71
  go_wp2
  go_loopw [3, 4] (fun v i wr => ∃ j : Nat, j ≤ len ∧ i = .int .i64 ((j : Int) - 1) ∧ Own w.heap.size v (xs.drop j).reverse wr ∧ Below w.heap.size w wr) (fun _ i _ => (intOf i + 1).toNat)
  case atStart => exact ⟨len, Nat.le_refl _, rfl, by rw [List.drop_of_length_le (by rw [hxl.out]; omega)]; exact hO, by (repeat' (first | (with_reducible exact Below.refl _ _) | (with_reducible assumption) | (with_reducible refine Below.setCell ?_ (by first | omega | (simp; done) | (simp; omega)) _) | (with_reducible refine Below.alloc ?_ (by first | omega | (simp; done) | (simp; omega)) _) | (with_reducible refine below_drewN ?_ _) | (with_reducible refine Below.drew ?_)))⟩
  case round =>
    clear hO
    obtain ⟨j, hj, rfl, hO, hb⟩ := hrel
    have hz := hb.size
    by_cases h0 : j = 0
    · subst h0
      go_wp2
      go_ret
      rw [List.drop_zero] at hO
      exact ⟨_, rfl, hO, hb⟩
    · obtain ⟨k, rfl⟩ : ∃ k, j = k + 1 := ⟨j - 1, by omega⟩
      have hkl : k < len := by omega
      obtain ⟨b1, o1, s, rfl, hlt1, hs1, hc1⟩ := h.at hb hkl
      obtain ⟨c0, c1, c2, c3⟩ := hc1
      have HS1 := Lib.hid hs1
      clear hs1
      rw [show ((k + 1 : Nat) : Int) - 1 = (k : Int) by omega]
      go_wp2_with (at_builtin; refine append_sec rfl (.tmp 13) (.tmp 18) rfl w.heap.size _ _ _ (by rfl) hO s (by rfl) (by rw [List.length_reverse, List.length_drop, hxl.out]; omega) hz ?_; intro v' w1 hO' hg'; have hB1 := below_own hb hO (Nat.le_refl _) hg'; clear hg'; rw [drop_rev HS1.out] at hO')
      go_roundw
      case rel => exact ⟨k, by omega, by go_num, hO', by (repeat' (first | (with_reducible exact Below.refl _ _) | (with_reducible assumption) | (with_reducible refine Below.setCell ?_ (by first | omega | (simp; done) | (simp; omega)) _) | (with_reducible refine Below.alloc ?_ (by first | omega | (simp; done) | (simp; omega)) _) | (with_reducible refine below_drewN ?_ _) | (with_reducible refine Below.drew ?_)))⟩
      case measure => simp [intOf]; try omega
theorem fibOk_ph {xs : List Sec} {s : Sec} (h : fibOk xs = true) (hs : s ∈ xs) : 0 ≤ s.ph ∧ s.ph ≤ 3 := by
  have h1 : secOk s = true := by
    have := h
    simp only [fibOk, Bool.and_eq_true] at this
    exact List.all_eq_true.1 this.1 s hs
  simp only [secOk, Bool.and_eq_true, inB_iff] at h1
  exact h1.1.2
theorem fibOk_len {xs : List Sec} (h : fibOk xs = true) : xs.length ≤ 8 := by
  simp only [fibOk, Bool.and_eq_true, decide_eq_true_eq] at h
  exact h.2
theorem fibValid_t (A : Option Addr) (len cap : Nat) (xs : List Sec) (w : World) (h : Secs A len cap xs w) (hf : fibOk xs = true) :
    Calls Tryd.prog 55 #[.slice A len cap] w fun e w' => e = .returned (.bool true) ∧ Below w.heap.size w w' := by rw [← hf]; exact fibValid_any A len cap xs w h
theorem fibValid_f (A : Option Addr) (len cap : Nat) (xs : List Sec) (w : World) (h : Secs A len cap xs w) (hf : fibOk xs = false) :
    Calls Tryd.prog 55 #[.slice A len cap] w fun e w' => e = .returned (.bool false) ∧ Below w.heap.size w w' := by rw [← hf]; exact fibValid_any A len cap xs w h
theorem sfibValid_t (A : Option Addr) (len cap : Nat) (xs : List Sec) (w : World) (h : Secs A len cap xs w) (hf : fibOk xs = true) :
    Calls Tryd.prog 53 #[.slice A len cap] w fun e w' => e = .returned (.bool true) ∧ Below w.heap.size w w' := by rw [← hf]; exact sfibValid_any A len cap xs w h
theorem sfibValid_f (A : Option Addr) (len cap : Nat) (xs : List Sec) (w : World) (h : Secs A len cap xs w) (hf : fibOk xs = false) :
    Calls Tryd.prog 53 #[.slice A len cap] w fun e w' => e = .returned (.bool false) ∧ Below w.heap.size w w' := by rw [← hf]; exact sfibValid_any A len cap xs w h
theorem tmod_ph (s : Sec) (h0 : 0 ≤ s.ph) (h1 : s.ph ≤ 3) : (4 - s.ph).tmod 4 = -s.ph % 4 := by
  rcases (show s.ph = 0 ∨ s.ph = 1 ∨ s.ph = 2 ∨ s.ph = 3 by omega) with e | e | e | e <;> rw [e] <;> rfl
theorem turn_step {ys : List Sec} {k : Nat} {s : Sec} (h : ys[k]? = some s) : ((ys.take k).map turnS ++ ys.drop k).set k (turnS s) = (ys.take (k + 1)).map turnS ++ ys.drop (k + 1) := by
  have hk := (List.getElem?_eq_some_iff.1 h).1
  have hl : ((ys.take k).map turnS).length = k := by rw [List.length_map, List.length_take]; omega
  rw [List.set_append, if_neg (by omega), hl, Nat.sub_self, List.drop_eq_getElem_cons hk, List.set_cons_zero, List.take_add_one, h]
  simp
set_option maxRecDepth 100000 in
set_option maxHeartbeats 1000000 in
theorem back_any (A : Option Addr) (len cap : Nat) (xs : List Sec) (w : World) (h : Secs A len cap xs w) :
    Calls Tryd.prog 26 #[.slice A len cap] w fun e w' => ∃ v, e = .returned (.tuple #[v, .bool (fibOk xs)]) ∧ Own w.heap.size v (backI xs) w' ∧ Below w.heap.size w w' := by
  cases hf : fibOk xs
  · go_enter Tryd.func26, Tryd.ntmps26
    go_wp2_with (first | (go_at_call 55; (with_reducible refine (fibValid_f A len cap xs _ h hf).mono ?_); rintro e w1 ⟨rfl, hb⟩; have hz := hb.size; have hO := Own.made w1 w.heap.size hz))
    go_ret2
    exact ⟨_, rfl, by simpa [backI, hf] using hO, by (repeat' (first | (with_reducible exact Below.refl _ _) | (with_reducible assumption) | (with_reducible refine Below.setCell ?_ (by first | omega | (simp; done) | (simp; omega)) _) | (with_reducible refine Below.alloc ?_ (by first | omega | (simp; done) | (simp; omega)) _) | (with_reducible refine below_drewN ?_ _) | (with_reducible refine Below.drew ?_)))⟩
  · have hlen := fibOk_len hf
    have hxl := h.1
    have hR := Lib.hid (fun w1 (hb : Below w.heap.size w w1) => reversed_any A len cap xs w1 (h.below hb) (by omega))
    go_enter Tryd.func26, Tryd.ntmps26
    go_wp2_with (first | (go_at_call 55; (with_reducible refine (fibValid_t A len cap xs _ h hf).mono ?_); rintro e w1 ⟨rfl, hb⟩) | (go_at_call 71; (with_reducible refine (hR.out _ (by assumption)).mono ?_); rintro e w2 ⟨v, rfl, hO, hb2⟩; refine Hid.out ?_))
    refine Lib.hid ?_
    have hB := bstep hb hb2 hb.size
    have hO := hO.mono hb.size
    obtain ⟨ys, hys⟩ : ∃ ys, ys = xs.reverse := ⟨_, rfl⟩
    rw [← hys] at hO
    have hyl : ys.length = len := by rw [hys, List.length_reverse, hxl]
    obtain ⟨A2, cap2, rfl, hS2⟩ := hO.secs
    have hcap := hS2.2.1
    have hcap2 := hS2.2.2.1
    have HY := Lib.hid hys
    have HYL := Lib.hid hyl
    rw [hyl] at hO hcap ⊢
    clear hS2 hb hb2 hR hys hyl hxl
    go_wp2
    go_loopw [5, 14] (fun _ i wr => ∃ k : Nat, k ≤ len ∧ i = .int .i64 k ∧ Own w.heap.size (.slice A2 len cap2) ((ys.take k).map turnS ++ ys.drop k) wr ∧ Below w.heap.size w wr) (fun _ i _ => len - (intOf i).toNat)
    case atStart => exact ⟨0, Nat.zero_le _, rfl, by simpa using hO, hB⟩
    case round =>
      clear hO hB
      obtain ⟨k, hk, rfl, hO, hb⟩ := hrel
      have hz := hb.size
      by_cases hkl : k < len
      · have hyk : ys[k]? = some (ys[k]'(by have := HYL.out; omega)) := List.getElem?_eq_getElem _
        obtain ⟨s, hs⟩ : ∃ s, s = ys[k]'(by have := HYL.out; omega) := ⟨_, rfl⟩
        rw [← hs] at hyk
        have hph := fibOk_ph hf (s := s) (by have := List.mem_of_getElem? hyk; rw [HY.out] at this; simpa using this)
        have hxk : ((ys.take k).map turnS ++ ys.drop k)[k]? = some s := by
          have hl : ((ys.take k).map turnS).length = k := by rw [List.length_map, List.length_take]; have := HYL.out; omega
          rw [List.getElem?_append_right (by omega), hl, Nat.sub_self, List.getElem?_drop, Nat.add_zero, hyk]
        obtain ⟨g, cp, hv, hbg, hlt, hat, hfz⟩ := hO.at k s hxk
        have hv2 : A2 = some ⟨g, 0, none⟩ := by injection hv
        subst hv2
        have HXK := Lib.hid hxk
        have HYK := Lib.hid hyk
        clear hxk hyk hs hv
        obtain ⟨z0, z1, z2, z3⟩ := hat
        obtain ⟨f0, f1, f2, f3⟩ := hfz
        obtain ⟨p0, p1⟩ := hph
        go_wp2
        go_roundw
        case rel =>
          have e := hO.putPh (g := g) rfl k s HXK.out ((4 - s.ph).tmod 4)
          rw [show ({ s with ph := (4 - s.ph).tmod 4 } : Sec) = turnS s from rfl, turn_step HYK.out, tmod_ph s p0 p1] at e
          exact ⟨k + 1, by omega, by go_num, e, by (repeat' (first | (with_reducible exact Below.refl _ _) | (with_reducible assumption) | (with_reducible refine Below.setCell ?_ (by first | omega | (simp; done) | (simp; omega)) _) | (with_reducible refine Below.alloc ?_ (by first | omega | (simp; done) | (simp; omega)) _) | (with_reducible refine below_drewN ?_ _) | (with_reducible refine Below.drew ?_)))⟩
        case measure => simp [intOf]; omega
      · go_wp2
        go_ret2
        have e : k = len := by omega
        subst e
        have e1 := HY.out
        have e2 := HYL.out
        rw [List.drop_of_length_le (by omega), List.append_nil, List.take_of_length_le (by omega), e1] at hO
        exact ⟨_, rfl, by simpa [backI, hf] using hO, hb⟩
end Go.Proofs.YtmaifiakjlbooaaDoor
