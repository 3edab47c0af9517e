/-
  The reference's reckoning that remembers whether something on the way was none: what each of its methods does to it.
-/
import Derived.Test.YtodhbkinbcemnaaGreatDoorPd
namespace Go.Proofs.YtodhbkinbcemnaaGreatDoor
set_option linter.unusedSimpArgs false
set_option linter.unusedVariables false
open Go.RowKit
attribute [local go_sem ↓] Go.wp_at_zero Go.wp_at_succ
/-- Block bs is a reckoning; bad: whether something was none. -/
def OkIs (w : World) (bs : Nat) (bad : Bool) : Prop := w.heap[bs]? = some (.cells #[.bool (!bad)] 69 (0, 0))
section
variable {w w' : World} {bs : Nat} {b : Bool}
theorem OkIs.lt (h : OkIs w bs b) : bs < w.heap.size := by
  rcases Nat.lt_or_ge bs w.heap.size with hlt | hge
  · exact hlt
  · unfold OkIs at h; rw [Array.getElem?_eq_none hge] at h; cases h
theorem OkIs.cell (h : OkIs w bs b) : w.cell? ⟨bs, 0, none⟩ = some (.bool (!b)) := by unfold OkIs at h; simp [World.cell?, h]
theorem OkIs.frozen (h : OkIs w bs b) : w.frozen? ⟨bs, 0, none⟩ = false := by unfold OkIs at h; simp [World.frozen?, h]
theorem OkIs.drew (h : OkIs w bs b) : OkIs w.drew bs b := h
theorem OkIs.drewN (h : OkIs w bs b) (n : Nat) : OkIs (w.drewN n) bs b := h
theorem OkIs.alloc (h : OkIs w bs b) (o : Obj) : OkIs (w.alloc o) bs b := (Below.heap_alloc w o bs h.lt).trans h
theorem OkIs.set (h : OkIs w bs b) (c : Bool) : OkIs (w.setCell ⟨bs, 0, none⟩ (.bool (!c))) bs c := by
  unfold OkIs at h ⊢
  simp [World.setCell, Array.getElem?_modify, h]
theorem OkIs.far (h : OkIs w bs b) {p : Addr} (hp : bs ≠ p.block) (u : Value) : OkIs (w.setCell p u) bs b := (Below.heap_setCell w p u bs hp).trans h
theorem OkIs.below {B : Nat} (h : OkIs w bs b) (hb : Below B w w') (hlt : bs < B) : OkIs w' bs b := (hb.block bs hlt).trans h
theorem OkIs.new (w : World) (b : Bool) : OkIs (w.alloc (.cells #[.bool (!b)] 69)) w.heap.size b := by show (w.heap.push _)[w.heap.size]? = _; simp
theorem OkIs.new' {w : World} {b : Bool} {bs : Nat} (h : bs = w.heap.size) : OkIs (w.alloc (.cells #[.bool (!b)] 69)) bs b := h ▸ OkIs.new w b
def OkEx (w : World) (bs : Nat) : Prop := ∃ b, OkIs w bs b
theorem OkEx.of (h : OkIs w bs b) : OkEx w bs := ⟨b, h⟩
theorem OkEx.drew (h : OkEx w bs) : OkEx w.drew bs := h
theorem OkEx.drewN (h : OkEx w bs) (n : Nat) : OkEx (w.drewN n) bs := h
theorem OkEx.alloc (h : OkEx w bs) (o : Obj) : OkEx (w.alloc o) bs := ⟨_, h.choose_spec.alloc o⟩
theorem OkEx.far (h : OkEx w bs) {p : Addr} (hp : bs ≠ p.block) (u : Value) : OkEx (w.setCell p u) bs := ⟨_, h.choose_spec.far hp u⟩
theorem OkIs.setEx (h : OkEx w bs) (c : Bool) : OkIs (w.setCell ⟨bs, 0, none⟩ (.bool (!c))) bs c := h.choose_spec.set c
theorem OkIs.uniq {c : Bool} (h : OkIs w bs b) (k : OkIs w bs c) : b = c := by
  unfold OkIs at h k; rw [h] at k; simpa using k
theorem OkIs.sub (h : OkIs w bs b) {c : Bool} (e : b = c) : OkIs w bs c := e ▸ h
end
set_option maxRecDepth 100000 in
set_option maxHeartbeats 1000000 in
theorem y_times0 (a b : Fr) (bs : Nat) (bad : Bool) (w : World) (hs : OkIs w bs bad) :
    Calls Tryz.prog 116 #[.pointer (some ⟨bs, 0, none⟩), frv a, frv b] w fun e w' => e = .returned (frv ((timesI a b).getD ⟨0, 0, 0⟩)) ∧ OkIs w' bs (bad || (timesI a b).isNone) ∧ BelX w.heap.size bs w w' := by
  have hlt := hs.lt
  have hne : w.heap.size ≠ bs ∧ w.heap.size + 1 ≠ bs ∧ w.heap.size + 1 + 1 ≠ bs := ⟨by omega, by omega, by omega⟩
  have hb0 : Below w.heap.size w (((w.alloc (.cells #[.int .i64 a.re, .int .i64 a.im, .int .i64 a.den] 25)).alloc (.cells #[.int .i64 b.re, .int .i64 b.im, .int .i64 b.den] 25)).alloc (.cells #[.int .i64 0, .int .i64 0, .int .i64 0] 25)) := by exact below_
  have hr0 : FrG (((w.alloc (.cells #[.int .i64 a.re, .int .i64 a.im, .int .i64 a.den] 25)).alloc (.cells #[.int .i64 b.re, .int .i64 b.im, .int .i64 b.den] 25)).alloc (.cells #[.int .i64 0, .int .i64 0, .int .i64 0] 25)) (w.heap.size + 1 + 1) ⟨0, 0, 0⟩ := by
    have := FrG.new ((w.alloc (.cells #[.int .i64 a.re, .int .i64 a.im, .int .i64 a.den] 25)).alloc (.cells #[.int .i64 b.re, .int .i64 b.im, .int .i64 b.den] 25)) ⟨0, 0, 0⟩ 25
    simpa using this
  have hs0 : OkIs (((w.alloc (.cells #[.int .i64 a.re, .int .i64 a.im, .int .i64 a.den] 25)).alloc (.cells #[.int .i64 b.re, .int .i64 b.im, .int .i64 b.den] 25)).alloc (.cells #[.int .i64 0, .int .i64 0, .int .i64 0] 25)) bs bad := ((hs.alloc _).alloc _).alloc _
  go_enter Tryz.func116, Tryz.ntmps116
  go_wp2_with (go_at_call 71; (with_reducible refine (stimes_any a b _).mono ?_); rintro e w1 ⟨rfl, hb⟩; refine Hid.out ?_)
  refine Lib.hid ?_
  have hs1 := hs0.below hb (by simp; omega)
  have hr1 := hr0.below hb
  have hB1 : Below w.heap.size w w1 := bstep hb0 hb (by simp; omega)
  clear hb hs0 hr0 hb0
  have hcs := (hs1.alloc (.cells #[.int .i64 0, .int .i64 0, .int .i64 0] 25)).cell
  have hcs1 := hs1.cell
  have hfs1 := hs1.frozen
  have hl1 := hs1.lt
  obtain ⟨r0, r1, r2, rf⟩ := hr1
  have hlr : w.heap.size + 1 + 1 < w1.heap.size := World.block_lt_of_cell? w1 _ r0
  clear hcs
  rcases bad with _ | _ <;> simp only [Bool.not_true, Bool.not_false] at hcs1 <;> cases hv : timesI a b
  · have hvb : frb (timesI a b) = .tuple #[frv ⟨0, 0, 0⟩, .bool false] := by rw [hv]; rfl
    go_wp2
    refine bodyPost_ret (v := frv ⟨0, 0, 0⟩) (by simp [results, Tryz.results116, go_sem, *]) rfl ⟨rfl, ?_, by exact belx_⟩
    exact ((((hs1.set true).far (by simp; omega) _).far (by simp; omega) _).far (by simp; omega) _).alloc _
  · rename_i x
    have hvb : frb (timesI a b) = .tuple #[frv x, .bool true] := by rw [hv]; rfl
    go_wp2
    refine bodyPost_ret (v := frv x) (by simp [results, Tryz.results116, go_sem, *]) rfl ⟨rfl, ?_, by exact belx_⟩
    exact ((((hs1.set false).far (by simp; omega) _).far (by simp; omega) _).far (by simp; omega) _).alloc _
  · have hvb : frb (timesI a b) = .tuple #[frv ⟨0, 0, 0⟩, .bool false] := by rw [hv]; rfl
    go_wp2
    refine bodyPost_ret (v := frv ⟨0, 0, 0⟩) (by simp [results, Tryz.results116, go_sem, *]) rfl ⟨rfl, ?_, by exact belx_⟩
    exact ((((hs1.set true).far (by simp; omega) _).far (by simp; omega) _).far (by simp; omega) _).alloc _
  · rename_i x
    have hvb : frb (timesI a b) = .tuple #[frv x, .bool true] := by rw [hv]; rfl
    go_wp2
    refine bodyPost_ret (v := frv x) (by simp [results, Tryz.results116, go_sem, *]) rfl ⟨rfl, ?_, by exact belx_⟩
    exact ((((hs1.set true).far (by simp; omega) _).far (by simp; omega) _).far (by simp; omega) _).alloc _
theorem y_times (a b : Fr) (bs : Nat) (w : World) (hs : OkEx w bs) :
    Calls Tryz.prog 116 #[.pointer (some ⟨bs, 0, none⟩), frv a, frv b] w fun e w' => e = .returned (frv ((timesI a b).getD ⟨0, 0, 0⟩)) ∧ (∀ c, OkIs w bs c → OkIs w' bs (c || (timesI a b).isNone)) ∧ BelX w.heap.size bs w w' := by
  obtain ⟨b0, hb⟩ := hs
  exact (y_times0 a b bs b0 w hb).mono fun e w' ⟨h1, h2, h3⟩ => ⟨h1, fun c hc => by rw [← hb.uniq hc]; exact h2, h3⟩
set_option maxRecDepth 100000 in
set_option maxHeartbeats 1000000 in
theorem y_add0 (a b : Fr) (bs : Nat) (bad : Bool) (w : World) (hs : OkIs w bs bad) :
    Calls Tryz.prog 72 #[.pointer (some ⟨bs, 0, none⟩), frv a, .int .i64 1, frv b] w fun e w' => e = .returned (frv ((addI a b).getD ⟨0, 0, 0⟩)) ∧ OkIs w' bs (bad || (addI a b).isNone) ∧ BelX w.heap.size bs w w' := by
  have hlt := hs.lt
  have hne : w.heap.size ≠ bs ∧ w.heap.size + 1 ≠ bs ∧ w.heap.size + 1 + 1 ≠ bs := ⟨by omega, by omega, by omega⟩
  have hb0 : Below w.heap.size w (((w.alloc (.cells #[.int .i64 a.re, .int .i64 a.im, .int .i64 a.den] 25)).alloc (.cells #[.int .i64 b.re, .int .i64 b.im, .int .i64 b.den] 25)).alloc (.cells #[.int .i64 0, .int .i64 0, .int .i64 0] 25)) := by exact below_
  have hr0 : FrG (((w.alloc (.cells #[.int .i64 a.re, .int .i64 a.im, .int .i64 a.den] 25)).alloc (.cells #[.int .i64 b.re, .int .i64 b.im, .int .i64 b.den] 25)).alloc (.cells #[.int .i64 0, .int .i64 0, .int .i64 0] 25)) (w.heap.size + 1 + 1) ⟨0, 0, 0⟩ := by
    have := FrG.new ((w.alloc (.cells #[.int .i64 a.re, .int .i64 a.im, .int .i64 a.den] 25)).alloc (.cells #[.int .i64 b.re, .int .i64 b.im, .int .i64 b.den] 25)) ⟨0, 0, 0⟩ 25
    simpa using this
  have hs0 : OkIs (((w.alloc (.cells #[.int .i64 a.re, .int .i64 a.im, .int .i64 a.den] 25)).alloc (.cells #[.int .i64 b.re, .int .i64 b.im, .int .i64 b.den] 25)).alloc (.cells #[.int .i64 0, .int .i64 0, .int .i64 0] 25)) bs bad := ((hs.alloc _).alloc _).alloc _
  go_enter Tryz.func72, Tryz.ntmps72
  go_wp2_with (go_at_call 113; (with_reducible refine (ssum_add a b _).mono ?_); rintro e w1 ⟨rfl, hb⟩; refine Hid.out ?_)
  refine Lib.hid ?_
  have hs1 := hs0.below hb (by simp; omega)
  have hr1 := hr0.below hb
  have hB1 : Below w.heap.size w w1 := bstep hb0 hb (by simp; omega)
  clear hb hs0 hr0 hb0
  have hcs := (hs1.alloc (.cells #[.int .i64 0, .int .i64 0, .int .i64 0] 25)).cell
  have hcs1 := hs1.cell
  have hfs1 := hs1.frozen
  have hl1 := hs1.lt
  obtain ⟨r0, r1, r2, rf⟩ := hr1
  have hlr : w.heap.size + 1 + 1 < w1.heap.size := World.block_lt_of_cell? w1 _ r0
  clear hcs
  rcases bad with _ | _ <;> simp only [Bool.not_true, Bool.not_false] at hcs1 <;> cases hv : addI a b
  · have hvb : frb (addI a b) = .tuple #[frv ⟨0, 0, 0⟩, .bool false] := by rw [hv]; rfl
    go_wp2
    refine bodyPost_ret (v := frv ⟨0, 0, 0⟩) (by simp [results, Tryz.results72, go_sem, *]) rfl ⟨rfl, ?_, by exact belx_⟩
    exact ((((hs1.set true).far (by simp; omega) _).far (by simp; omega) _).far (by simp; omega) _).alloc _
  · rename_i x
    have hvb : frb (addI a b) = .tuple #[frv x, .bool true] := by rw [hv]; rfl
    go_wp2
    refine bodyPost_ret (v := frv x) (by simp [results, Tryz.results72, go_sem, *]) rfl ⟨rfl, ?_, by exact belx_⟩
    exact ((((hs1.set false).far (by simp; omega) _).far (by simp; omega) _).far (by simp; omega) _).alloc _
  · have hvb : frb (addI a b) = .tuple #[frv ⟨0, 0, 0⟩, .bool false] := by rw [hv]; rfl
    go_wp2
    refine bodyPost_ret (v := frv ⟨0, 0, 0⟩) (by simp [results, Tryz.results72, go_sem, *]) rfl ⟨rfl, ?_, by exact belx_⟩
    exact ((((hs1.set true).far (by simp; omega) _).far (by simp; omega) _).far (by simp; omega) _).alloc _
  · rename_i x
    have hvb : frb (addI a b) = .tuple #[frv x, .bool true] := by rw [hv]; rfl
    go_wp2
    refine bodyPost_ret (v := frv x) (by simp [results, Tryz.results72, go_sem, *]) rfl ⟨rfl, ?_, by exact belx_⟩
    exact ((((hs1.set true).far (by simp; omega) _).far (by simp; omega) _).far (by simp; omega) _).alloc _
theorem y_add (a b : Fr) (bs : Nat) (w : World) (hs : OkEx w bs) :
    Calls Tryz.prog 72 #[.pointer (some ⟨bs, 0, none⟩), frv a, .int .i64 1, frv b] w fun e w' => e = .returned (frv ((addI a b).getD ⟨0, 0, 0⟩)) ∧ (∀ c, OkIs w bs c → OkIs w' bs (c || (addI a b).isNone)) ∧ BelX w.heap.size bs w w' := by
  obtain ⟨b0, hb⟩ := hs
  exact (y_add0 a b bs b0 w hb).mono fun e w' ⟨h1, h2, h3⟩ => ⟨h1, fun c hc => by rw [← hb.uniq hc]; exact h2, h3⟩
set_option maxRecDepth 100000 in
set_option maxHeartbeats 1000000 in
theorem y_less0 (a b : Fr) (bs : Nat) (bad : Bool) (w : World) (hs : OkIs w bs bad) :
    Calls Tryz.prog 72 #[.pointer (some ⟨bs, 0, none⟩), frv a, .int .i64 (-1), frv b] w fun e w' => e = .returned (frv ((lessI a b).getD ⟨0, 0, 0⟩)) ∧ OkIs w' bs (bad || (lessI a b).isNone) ∧ BelX w.heap.size bs w w' := by
  have hlt := hs.lt
  have hne : w.heap.size ≠ bs ∧ w.heap.size + 1 ≠ bs ∧ w.heap.size + 1 + 1 ≠ bs := ⟨by omega, by omega, by omega⟩
  have hb0 : Below w.heap.size w (((w.alloc (.cells #[.int .i64 a.re, .int .i64 a.im, .int .i64 a.den] 25)).alloc (.cells #[.int .i64 b.re, .int .i64 b.im, .int .i64 b.den] 25)).alloc (.cells #[.int .i64 0, .int .i64 0, .int .i64 0] 25)) := by exact below_
  have hr0 : FrG (((w.alloc (.cells #[.int .i64 a.re, .int .i64 a.im, .int .i64 a.den] 25)).alloc (.cells #[.int .i64 b.re, .int .i64 b.im, .int .i64 b.den] 25)).alloc (.cells #[.int .i64 0, .int .i64 0, .int .i64 0] 25)) (w.heap.size + 1 + 1) ⟨0, 0, 0⟩ := by
    have := FrG.new ((w.alloc (.cells #[.int .i64 a.re, .int .i64 a.im, .int .i64 a.den] 25)).alloc (.cells #[.int .i64 b.re, .int .i64 b.im, .int .i64 b.den] 25)) ⟨0, 0, 0⟩ 25
    simpa using this
  have hs0 : OkIs (((w.alloc (.cells #[.int .i64 a.re, .int .i64 a.im, .int .i64 a.den] 25)).alloc (.cells #[.int .i64 b.re, .int .i64 b.im, .int .i64 b.den] 25)).alloc (.cells #[.int .i64 0, .int .i64 0, .int .i64 0] 25)) bs bad := ((hs.alloc _).alloc _).alloc _
  go_enter Tryz.func72, Tryz.ntmps72
  go_wp2_with (go_at_call 113; (with_reducible refine (ssum_less a b _).mono ?_); rintro e w1 ⟨rfl, hb⟩; refine Hid.out ?_)
  refine Lib.hid ?_
  have hs1 := hs0.below hb (by simp; omega)
  have hr1 := hr0.below hb
  have hB1 : Below w.heap.size w w1 := bstep hb0 hb (by simp; omega)
  clear hb hs0 hr0 hb0
  have hcs := (hs1.alloc (.cells #[.int .i64 0, .int .i64 0, .int .i64 0] 25)).cell
  have hcs1 := hs1.cell
  have hfs1 := hs1.frozen
  have hl1 := hs1.lt
  obtain ⟨r0, r1, r2, rf⟩ := hr1
  have hlr : w.heap.size + 1 + 1 < w1.heap.size := World.block_lt_of_cell? w1 _ r0
  clear hcs
  rcases bad with _ | _ <;> simp only [Bool.not_true, Bool.not_false] at hcs1 <;> cases hv : lessI a b
  · have hvb : frb (lessI a b) = .tuple #[frv ⟨0, 0, 0⟩, .bool false] := by rw [hv]; rfl
    go_wp2
    refine bodyPost_ret (v := frv ⟨0, 0, 0⟩) (by simp [results, Tryz.results72, go_sem, *]) rfl ⟨rfl, ?_, by exact belx_⟩
    exact ((((hs1.set true).far (by simp; omega) _).far (by simp; omega) _).far (by simp; omega) _).alloc _
  · rename_i x
    have hvb : frb (lessI a b) = .tuple #[frv x, .bool true] := by rw [hv]; rfl
    go_wp2
    refine bodyPost_ret (v := frv x) (by simp [results, Tryz.results72, go_sem, *]) rfl ⟨rfl, ?_, by exact belx_⟩
    exact ((((hs1.set false).far (by simp; omega) _).far (by simp; omega) _).far (by simp; omega) _).alloc _
  · have hvb : frb (lessI a b) = .tuple #[frv ⟨0, 0, 0⟩, .bool false] := by rw [hv]; rfl
    go_wp2
    refine bodyPost_ret (v := frv ⟨0, 0, 0⟩) (by simp [results, Tryz.results72, go_sem, *]) rfl ⟨rfl, ?_, by exact belx_⟩
    exact ((((hs1.set true).far (by simp; omega) _).far (by simp; omega) _).far (by simp; omega) _).alloc _
  · rename_i x
    have hvb : frb (lessI a b) = .tuple #[frv x, .bool true] := by rw [hv]; rfl
    go_wp2
    refine bodyPost_ret (v := frv x) (by simp [results, Tryz.results72, go_sem, *]) rfl ⟨rfl, ?_, by exact belx_⟩
    exact ((((hs1.set true).far (by simp; omega) _).far (by simp; omega) _).far (by simp; omega) _).alloc _
theorem y_less (a b : Fr) (bs : Nat) (w : World) (hs : OkEx w bs) :
    Calls Tryz.prog 72 #[.pointer (some ⟨bs, 0, none⟩), frv a, .int .i64 (-1), frv b] w fun e w' => e = .returned (frv ((lessI a b).getD ⟨0, 0, 0⟩)) ∧ (∀ c, OkIs w bs c → OkIs w' bs (c || (lessI a b).isNone)) ∧ BelX w.heap.size bs w w' := by
  obtain ⟨b0, hb⟩ := hs
  exact (y_less0 a b bs b0 w hb).mono fun e w' ⟨h1, h2, h3⟩ => ⟨h1, fun c hc => by rw [← hb.uniq hc]; exact h2, h3⟩
end Go.Proofs.YtodhbkinbcemnaaGreatDoor
