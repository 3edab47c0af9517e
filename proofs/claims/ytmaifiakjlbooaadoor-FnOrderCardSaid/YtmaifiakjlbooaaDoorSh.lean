/-
  The walks of what makes a fibre short, program and reference.
-/
import Derived.Test.YtmaifiakjlbooaaDoorBk
namespace Go.Proofs.YtmaifiakjlbooaaDoor
set_option linter.unusedSimpArgs false
set_option linter.unusedVariables false
open Go.RowKit
/-- How often a phase is done for whole waves. -/
def beatI (ph : Int) : Int := if ph = 0 then 1 else if ph = 2 then 2 else 4
theorem beatI_bd (ph : Int) : 1 ≤ beatI ph ∧ beatI ph ≤ 4 := by unfold beatI; split <;> (try split) <;> omega
theorem mod_bd (t b : Int) (h1 : 1 ≤ b) (h2 : b ≤ 4) : 0 ≤ t % b ∧ t % b ≤ 3 := by
  have := Int.emod_nonneg t (show b ≠ 0 by omega)
  have := Int.emod_lt_of_pos t (show 0 < b by omega)
  omega
def sameSec (a b : Sec) : Bool := decide (a.p = b.p) && (decide (a.q = b.q) && decide (a.ph = b.ph))
def putS (out : List Sec) (s : Sec) : List Sec := if 0 < s.t % beatI s.ph then out ++ [{ s with t := s.t % beatI s.ph }] else out
def shortStep (out : List Sec) (s : Sec) : List Sec :=
  match out.getLast? with
  | some l => if sameSec l s then putS out.dropLast { s with t := s.t + l.t } else putS out s
  | none => putS out s
def shortK (xs : List Sec) (k : Nat) : List Sec := (xs.take k).foldl shortStep []
def shortI (xs : List Sec) : List Sec := if fibOk xs then shortK xs xs.length else []
theorem shortK_succ {xs : List Sec} {k : Nat} {s : Sec} (h : xs[k]? = some s) : shortK xs (k + 1) = shortStep (shortK xs k) s := by
  rw [shortK, List.take_add_one, h, List.foldl_append]; rfl
theorem putS_len (out : List Sec) (s : Sec) : (putS out s).length ≤ out.length + 1 := by unfold putS; split <;> simp
theorem step_len (out : List Sec) (s : Sec) : (shortStep out s).length ≤ out.length + 1 := by
  unfold shortStep
  split
  · split
    · have := putS_len out.dropLast { s with t := s.t + ‹Sec›.t }
      rw [List.length_dropLast] at this
      omega
    · exact putS_len _ _
  · exact putS_len _ _
theorem shortK_len (xs : List Sec) (k : Nat) : (shortK xs k).length ≤ k := by
  have key : ∀ (ys : List Sec) (out : List Sec), (ys.foldl shortStep out).length ≤ out.length + ys.length := by
    intro ys
    induction ys with
    | nil => intro out; simp
    | cons y ys ih =>
      intro out
      have h1 := ih (shortStep out y)
      have h2 := step_len out y
      simp only [List.foldl_cons, List.length_cons]
      omega
  have h1 := key (xs.take k) []
  have h2 := List.length_take_le k xs
  simp only [List.length_nil, Nat.zero_add] at h1
  unfold shortK
  omega
/-- What is drawn together stays small. -/
def small (s : Sec) : Prop := 0 ≤ s.t ∧ s.t ≤ 3
theorem putS_small {out : List Sec} {s : Sec} (h : ∀ z ∈ out, small z) : ∀ z ∈ putS out s, small z := by
  intro z hz
  unfold putS at hz
  split at hz
  · rcases List.mem_append.1 hz with hz | hz
    · exact h z hz
    · simp only [List.mem_singleton] at hz
      subst hz
      exact mod_bd _ _ (beatI_bd _).1 (beatI_bd _).2
  · exact h z hz
theorem step_small {out : List Sec} {s : Sec} (h : ∀ z ∈ out, small z) : ∀ z ∈ shortStep out s, small z := by
  unfold shortStep
  split
  · split
    · exact putS_small (fun z hz => h z (List.dropLast_subset _ hz))
    · exact putS_small h
  · exact putS_small h
theorem shortK_small (xs : List Sec) (k : Nat) : ∀ z ∈ shortK xs k, small z := by
  have key : ∀ (ys : List Sec) (out : List Sec), (∀ z ∈ out, small z) → ∀ z ∈ ys.foldl shortStep out, small z := by
    intro ys
    induction ys with
    | nil => intro out h; exact h
    | cons y ys ih => intro out h; exact ih _ (step_small h)
  exact key _ _ (fun z hz => by cases hz)
theorem fibOk_t {xs : List Sec} {s : Sec} (h : fibOk xs = true) (hs : s ∈ xs) : 0 ≤ s.t ∧ s.t ≤ 50 := by
  have h1 : secOk s = true := by
    have := h
    simp only [fibOk, Bool.and_eq_true] at this
    exact List.all_eq_true.1 this.1 s hs
  simp only [secOk, Bool.and_eq_true, inB_iff] at h1
  exact h1.2
set_option maxHeartbeats 1000000 in
theorem beat_any (ph : Int) (w : World) (h0 : 0 ≤ ph) (h1 : ph ≤ 3) : Calls Tryd.prog 52 #[.int .i64 ph] w fun e w' => e = .returned (.int .i64 (beatI ph)) ∧ Below w.heap.size w w' := by
  rcases (show ph = 0 ∨ ph = 1 ∨ ph = 2 ∨ ph = 3 by omega) with rfl | rfl | rfl | rfl
  all_goals
    go_enter Tryd.func52, Tryd.ntmps52
    go_wp2
    go_ret
    exact ⟨by simp [beatI], by (repeat' (first | (with_reducible exact Below.refl _ _) | (with_reducible assumption) | (with_reducible refine Below.setCell ?_ (by first | omega | (simp; done) | (simp; omega)) _) | (with_reducible refine Below.alloc ?_ (by first | omega | (simp; done) | (simp; omega)) _) | (with_reducible refine below_drewN ?_ _) | (with_reducible refine Below.drew ?_)))⟩
def g4 (ph : Int) : Int := gcdI 4 ph
theorem g4_eq (ph : Int) (h0 : 0 ≤ ph) (h1 : ph ≤ 3) : (1 ≤ g4 ph ∧ g4 ph ≤ 4) ∧ (4 : Int).tdiv (g4 ph) = beatI ph ∧ 4 / g4 ph = beatI ph ∧ IntKind.i64.wrap (beatI ph) = beatI ph ∧ IntKind.i64.wrap ((4 : Int).tdiv (g4 ph)) = beatI ph ∧ IntKind.i64.wrap (4 / g4 ph) = beatI ph := by
  rcases (show ph = 0 ∨ ph = 1 ∨ ph = 2 ∨ ph = 3 by omega) with rfl | rfl | rfl | rfl <;> decide
theorem sbeat_any (ph : Int) (w : World) (h0 : 0 ≤ ph) (h1 : ph ≤ 3) : Calls Tryd.prog 54 #[.int .i64 4, .int .i64 ph] w fun e w' => e = .returned (.int .i64 (g4 ph)) ∧ Below w.heap.size w w' := by
  refine (sgcd_any 4 ph w (by omega) (by omega) (by omega) (by omega)).mono fun e w' h => ⟨h.1, ?_⟩
  rw [h.2]
  exact Below.refl _ _
theorem keepE (wr : World) (cs : Array Value) (t n o : Nat) (u v : Value) (ho : o ≠ 3) (h : cs[o]? = some u) : (((wr.alloc (.cells cs t)).drewN n).setCell ⟨wr.heap.size, 3, none⟩ v).cell? ⟨wr.heap.size, o, none⟩ = some u := by
  rw [World.cell?_setCell_other (h := fun e => ho (by injection e with _ e2; exact e2.symm))]
  show (wr.alloc (.cells cs t)).cell? ⟨wr.heap.size, o, none⟩ = some u
  rw [World.cell?_alloc_at _ _ _ _ rfl, h]
theorem keepE3 (wr : World) (cs : Array Value) (t n : Nat) (u v : Value) (h : cs[3]? = some u) : (((wr.alloc (.cells cs t)).drewN n).setCell ⟨wr.heap.size, 3, none⟩ v).cell? ⟨wr.heap.size, 3, none⟩ = some v := by
  refine World.cell?_setCell_same (u := u) (h := ?_) ..
  show (wr.alloc (.cells cs t)).cell? ⟨wr.heap.size, 3, none⟩ = some u
  rw [World.cell?_alloc_at _ _ _ _ rfl, h]
theorem tmod_beat (t ph : Int) (h : 0 ≤ t) : t.tmod (beatI ph) = t % beatI ph := Int.tmod_eq_emod_of_nonneg h
theorem step_put {out : List Sec} {s : Sec} (h : out.length = 0 ∨ ∃ l, out.getLast? = some l ∧ sameSec l s = false) : shortStep out s = putS out s := by
  rcases h with h | ⟨l, h, h2⟩
  · have : out = [] := List.eq_nil_of_length_eq_zero h
    subst this
    rfl
  · simp [shortStep, h, h2]
theorem step_join {out : List Sec} {s l : Sec} (h : out.getLast? = some l) (h2 : sameSec l s = true) : shortStep out s = putS out.dropLast { s with t := s.t + l.t } := by
  simp [shortStep, h, h2]
theorem putS_pos {out : List Sec} {s : Sec} (h : 0 < s.t % beatI s.ph) : putS out s = out ++ [⟨s.p, s.q, s.ph, s.t % beatI s.ph⟩] := by simp [putS, h]
theorem putS_neg {out : List Sec} {s : Sec} (h : ¬ 0 < s.t % beatI s.ph) : putS out s = out := by simp [putS, h]
theorem last_at {out : List Sec} {m : Nat} (h : m + 1 = out.length) : ∃ l, out[m]? = some l ∧ out.getLast? = some l ∧ out.dropLast = out.take m := by
  refine ⟨out[m]'(by omega), List.getElem?_eq_getElem _, ?_, ?_⟩
  · rw [List.getLast?_eq_getElem?, show out.length - 1 = m by omega]
    exact List.getElem?_eq_getElem _
  · rw [List.dropLast_eq_take, show out.length - 1 = m by omega]
end Go.Proofs.YtmaifiakjlbooaaDoor
