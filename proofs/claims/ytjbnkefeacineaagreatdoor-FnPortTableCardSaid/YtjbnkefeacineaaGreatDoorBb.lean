/-
  Pieces and benches in plain Lean: the program's reading and the reference's are one.
-/
import Derived.Test.YtjbnkefeacineaaGreatDoorBa
import Derived.Test.YtjbnkefeacineaaGreatDoorJj
namespace Go.Proofs.YtjbnkefeacineaaGreatDoor
set_option linter.unusedSimpArgs false
set_option linter.unusedVariables false
open Go
/-- Whether a piece is told by its letter and its numbers. -/
def pcOk (k : UInt8) (ns : List Int) : Bool := match ns with
  | [p, q] => if k = 114 ∨ k = 102 then dirOk p q else if k = 97 ∨ k = 100 then inB q 1 100 && inB p 0 q else false
  | [p, q, n] => if k = 119 then dirOk p q && inB n 0 3 else false
  | _ => false
def pieceI : List UInt8 → Option Pc
  | [] => none
  | c :: r => (allM numI (cutL 58 r)).bind fun ns => if pcOk c ns then some ⟨c, ns⟩ else none
def pieceS : List UInt8 → Option Pc
  | [] => none
  | c :: r => (allM numS (cutL 58 r)).bind fun ns => if pcOk c ns then some ⟨c, ns⟩ else none
/-- The pieces of a bench, as the program reads them. -/
def benchI (l : List UInt8) : Option (List Pc) := if l = [] then some [] else (allM pieceI (cutL 32 l)).bind fun ps => if ps.length ≤ 12 then some ps else none
def benchS (l : List UInt8) : Option (List Pc) := if l = [] then some [] else if 300 < l.length then none else (allM pieceS (cutL 32 l)).bind fun ps => if ps.length ≤ 12 then some ps else none
theorem dirk_bd {p q : Int} (h : dirOk p q = true) : -100 ≤ p ∧ p ≤ 100 ∧ -100 ≤ q ∧ q ≤ 100 := by
  simp only [dirOk, Bool.and_eq_true, inB_iff] at h
  omega
theorem pcOk_cases {k : UInt8} {ns : List Int} (h : pcOk k ns = true) : (∃ p q, ns = [p, q] ∧ -100 ≤ p ∧ p ≤ 100 ∧ -100 ≤ q ∧ q ≤ 100) ∨ ∃ p q n, ns = [p, q, n] ∧ -100 ≤ p ∧ p ≤ 100 ∧ -100 ≤ q ∧ q ≤ 100 ∧ 0 ≤ n ∧ n ≤ 3 := by
  match ns, h with
  | [], h => cases h
  | [_], h => cases h
  | [p, q], h =>
    refine .inl ⟨p, q, rfl, ?_⟩
    simp only [pcOk] at h
    split at h
    · exact dirk_bd h
    · split at h
      · simp only [Bool.and_eq_true, inB_iff] at h
        omega
      · cases h
  | [p, q, n], h =>
    refine .inr ⟨p, q, n, rfl, ?_⟩
    simp only [pcOk] at h
    split at h
    · simp only [Bool.and_eq_true, inB_iff] at h
      have := dirk_bd h.1
      omega
    · cases h
  | _ :: _ :: _ :: _ :: _, h => cases h
theorem pcOk_small {k : UInt8} {ns : List Int} (h : pcOk k ns = true) : ∀ n ∈ ns, -1000 < n ∧ n < 10000 := by
  rcases pcOk_cases h with ⟨p, q, rfl, hb⟩ | ⟨p, q, n, rfl, hb⟩
  · intro x hx
    simp only [List.mem_cons, List.not_mem_nil, or_false] at hx
    rcases hx with rfl | rfl <;> omega
  · intro x hx
    simp only [List.mem_cons, List.not_mem_nil, or_false] at hx
    rcases hx with rfl | rfl | rfl <;> omega
theorem piece_eq (l : List UInt8) : pieceI l = pieceS l := by
  cases l with
  | nil => rfl
  | cons c r =>
    rw [pieceI, pieceS]
    cases hI : allM numI (cutL 58 r) with
    | some ns =>
      rw [Option.bind_some]
      cases hp : pcOk c ns
      · cases hS : allM numS (cutL 58 r) with
        | none => rfl
        | some ms =>
          have := allM_of (p := fun _ => True) (fun x y h _ => numS_numI h) hS (fun _ _ => trivial)
          rw [hI] at this
          obtain rfl := Option.some.inj this
          rw [Option.bind_some, hp]
      · rw [allM_of (g := numS) (p := fun n => -1000 < n ∧ n < 10000) (fun x y h hb => numI_numS h hb.1 hb.2) hI (pcOk_small hp), Option.bind_some, hp]
    | none =>
      cases hS : allM numS (cutL 58 r) with
      | none => rfl
      | some ms =>
        have := allM_of (p := fun _ => True) (fun x y h _ => numS_numI h) hS (fun _ _ => trivial)
        rw [hI] at this
        cases this
theorem words_len : ∀ {ws : List (List UInt8)} {ns : List Int}, allM numI ws = some ns → (ws.map List.length).sum = (ns.map fun n => (Lib.itoa n).length).sum
  | [], ns, h => by obtain rfl := Option.some.inj h; rfl
  | w :: ws, ns, h => by
    obtain ⟨n, ms, h1, h2, rfl⟩ := allM_cons h
    obtain ⟨rfl, -⟩ := numI_iff.1 h1
    simp [words_len h2]
theorem itoa_len1 {v : Int} (h0 : 0 ≤ v) (h1 : v ≤ 9) : (Lib.itoa v).length = 1 := by
  unfold Lib.itoa
  rw [if_neg (by omega), Lib.decDigits_one (by omega)]; rfl
theorem piece_len {l : List UInt8} {p : Pc} (h : pieceI l = some p) : l.length ≤ 12 := by
  cases l with
  | nil => cases h
  | cons c r =>
    rw [pieceI] at h
    cases hI : allM numI (cutL 58 r) with
    | none => rw [hI] at h; cases h
    | some ns =>
      rw [hI, Option.bind_some] at h
      split at h
      · rename_i hp
        have h1 := words_len hI
        have h2 := cutL_len 58 r
        have h3 := allM_len hI
        rcases pcOk_cases hp with ⟨p, q, rfl, hb⟩ | ⟨p, q, n, rfl, hb⟩
        · have e1 := itoa_len (v := p) (by omega) (by omega)
          have e2 := itoa_len (v := q) (by omega) (by omega)
          simp at h1 h2 h3 ⊢
          omega
        · have e1 := itoa_len (v := p) (by omega) (by omega)
          have e2 := itoa_len (v := q) (by omega) (by omega)
          have e3 := itoa_len1 (v := n) (by omega) (by omega)
          simp at h1 h2 h3 ⊢
          omega
      · cases h
theorem pieces_len : ∀ {ws : List (List UInt8)} {ps : List Pc}, allM pieceI ws = some ps → (ws.map List.length).sum ≤ 12 * ps.length
  | [], ns, h => by obtain rfl := Option.some.inj h; simp
  | w :: ws, ns, h => by
    obtain ⟨n, ms, h1, h2, rfl⟩ := allM_cons h
    have := pieces_len h2
    have := piece_len h1
    simp; omega
/-- The program's reading of a bench is the reference's. -/
theorem bench_eq (l : List UInt8) : benchI l = benchS l := by
  unfold benchI benchS
  split
  · rfl
  · rw [show pieceS = pieceI from funext fun l => (piece_eq l).symm]
    split
    · rename_i h3
      cases h : allM pieceI (cutL 32 l) with
      | none => rfl
      | some ps =>
        rw [Option.bind_some]
        split
        · rename_i h16
          have h1 := pieces_len h
          have h2 := cutL_len 32 l
          have h4 := allM_len h
          omega
        · rfl
    · rfl
end Go.Proofs.YtjbnkefeacineaaGreatDoor
