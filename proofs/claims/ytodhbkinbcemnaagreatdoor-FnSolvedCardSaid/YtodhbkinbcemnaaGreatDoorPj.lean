/-
  Texts of this claim, joined: Ta; Tb; Sa; Ry; Rz. Nothing is claimed here; the other texts of this claim use it.
-/
import Derived.Test.YtodhbkinbcemnaaGreatDoorPb
import Derived.Test.YtodhbkinbcemnaaGreatDoorPe
import Derived.Test.YtodhbkinbcemnaaGreatDoorPc
import Derived.Deep.WholeRow
import Derived.Deep.Slices
import Derived.OwnWalk
import Derived.Test.YtodhbkinbcemnaaGreatDoorPi
import Derived.Test.YtodhbkinbcemnaaGreatDoorQw
import Derived.Test.YtodhbkinbcemnaaGreatDoorPa
namespace Go.Proofs.YtodhbkinbcemnaaGreatDoor
set_option linter.unusedSimpArgs false
set_option linter.unusedVariables false
section
open Go.RowKit
def vN (o : Option Fr) : Fr := o.getD zK
def pairV (a b : Fr) : Fr := vN (timesI a (vN (mirrorI b)))
def pairN (a b : Fr) : Bool := (mirrorI b).isNone || (timesI a (vN (mirrorI b))).isNone
def opI (p : Bool) (a b : Fr) : Option Fr := if p then addI a b else lessI a b
def realI (a : Fr) : Option Fr := if fvalid a then lowI a.re 0 a.den else none
def imagI (a : Fr) : Option Fr := if fvalid a then lowI a.im 0 a.den else none
def partI (im : Bool) (a : Fr) : Option Fr := if im then imagI a else realI a
def halfI (a : Fr) : Option Fr := overI a ⟨2, 0, 1⟩
def partS (im : Bool) (a : Fr) (over : Int) : Option Fr := makeI (if im then a.im else a.re) 0 (max 1 a.den * over)
def powE (p2 p3 p4 : Bool) (A B C D : Fr) : Fr × Bool :=
  (vN (halfI (vN (opI p4 (vN (opI p3 (vN (opI p2 A B)) C)) D))),
   (((opI p2 A B).isNone || (opI p3 (vN (opI p2 A B)) C).isNone) || (opI p4 (vN (opI p3 (vN (opI p2 A B)) C)) D).isNone) || (halfI (vN (opI p4 (vN (opI p3 (vN (opI p2 A B)) C)) D))).isNone)
def powR (p2 p3 p4 : Bool) (A B C D : Fr) : Option Fr := partS false (vN (opI p4 (vN (opI p3 (vN (opI p2 A B)) C)) D)) 2
def powS (p2 p3 p4 : Bool) (a b c d : Fr) : Fr × Bool :=
  (vN (powR p2 p3 p4 (pairV a a) (pairV b b) (pairV c c) (pairV d d)),
   ((((((pairN a a || pairN b b) || (opI p2 (pairV a a) (pairV b b)).isNone) || pairN c c) || (opI p3 (vN (opI p2 (pairV a a) (pairV b b))) (pairV c c)).isNone) || pairN d d) || (opI p4 (vN (opI p3 (vN (opI p2 (pairV a a) (pairV b b))) (pairV c c))) (pairV d d)).isNone) ||
    (powR p2 p3 p4 (pairV a a) (pairV b b) (pairV c c) (pairV d d)).isNone)
def twoE (im p : Bool) (x y u v : Fr) : Fr × Bool :=
  (vN (partI im (vN (opI p (pairV x y) (pairV u v)))), ((pairN x y || pairN u v) || (opI p (pairV x y) (pairV u v)).isNone) || (partI im (vN (opI p (pairV x y) (pairV u v)))).isNone)
def twoS (im p : Bool) (x y u v : Fr) : Fr × Bool :=
  (vN (partS im (vN (opI p (pairV x y) (pairV u v))) 1), ((pairN x y || pairN u v) || (opI p (pairV x y) (pairV u v)).isNone) || (partS im (vN (opI p (pairV x y) (pairV u v))) 1).isNone)
def entsI (a b c d A B C D : Fr) : List (Fr × Bool) :=
  [powE true true true A B C D, powE false true false A B C D, twoE false true a b c d, twoE true true b a d c,
   powE true false false A B C D, powE false false true A B C D, twoE false false a b c d, twoE true false b a d c,
   twoE false true a c b d, twoE false false a c b d, twoE false true a d b c, twoE true false b c a d,
   twoE true true a c b d, twoE true false a c b d, twoE true true a d b c, twoE false false a d b c]
def entsS (a b c d : Fr) : List (Fr × Bool) :=
  [powS true true true a b c d, powS false true false a b c d, twoS false true a b c d, twoS true true b a d c,
   powS true false false a b c d, powS false false true a b c d, twoS false false a b c d, twoS true false b a d c,
   twoS false true a c b d, twoS false false a c b d, twoS false true a d b c, twoS true false b c a d,
   twoS true true a c b d, twoS true false a c b d, twoS true true a d b c, twoS false false a d b c]
/-- The four powers: whether one is none. -/
def pow4 (a b c d : Fr) : Bool := (((powerI a).isNone || (powerI b).isNone) || (powerI c).isNone) || (powerI d).isNone
def tabI4 (v : Bool) (a b c d : Fr) : Option (List Fr) :=
  let e := entsI a b c d (vN (powerI a)) (vN (powerI b)) (vN (powerI c)) (vN (powerI d))
  if (!v || pow4 a b c d) || e.any (·.2) then none else some (e.map (·.1))
def tabS4 (v : Bool) (a b c d : Fr) : Option (List Fr) := if !v || (entsS a b c d).any (·.2) then none else some ((entsS a b c d).map (·.1))
theorem pair_self {a : Fr} (h : fvalid a = true) : pairV a a = vN (powerI a) ∧ pairN a a = (powerI a).isNone := by
  have hm : fvalid ⟨a.re, -a.im, a.den⟩ = true := by
    have hg := fvalid_gcd a h
    have hb := fvalid_bd a h
    simp only [fvalid, Bool.and_eq_true, inB_iff, beq_iff_eq]
    refine ⟨⟨⟨hb.1, by omega⟩, hb.2.2⟩, ?_⟩
    unfold gcd3 gcdI absI at hg ⊢
    simpa using hg
  have e : timesI a ⟨a.re, -a.im, a.den⟩ = powerI a := by
    unfold timesI powerI
    rw [h, hm]
    simp only [Bool.and_self, if_true]
    congr 1
    · rw [Int.mul_neg]; omega
    · rw [Int.mul_neg, Int.mul_comm a.im a.re]; omega
  have e1 : mirrorI a = some ⟨a.re, -a.im, a.den⟩ := by simp [mirrorI, h]
  unfold pairV pairN
  rw [e1]
  simp only [vN, Option.getD_some, e, Option.isNone_some, Bool.false_or, and_self]
theorem power_real {a f : Fr} (e : powerI a = some f) : realOk f = true := by
  unfold powerI at e
  split at e
  · rename_i h
    exact low_real (dens_pos (fvalid_bd a h).2.2.1 (fvalid_bd a h).2.2.1) e
  · cases e
theorem op_real {p : Bool} {a b f : Fr} (ha : realOk a = true) (hb : realOk b = true) (e : opI p a b = some f) : realOk f = true := by
  unfold opI at e
  split at e
  · exact add_real ha hb e
  · exact less_real ha hb e
theorem op_valid {p : Bool} {a b f : Fr} (e : opI p a b = some f) : fvalid f = true := by
  unfold opI addI lessI at e
  split at e
  · split at e
    · rename_i h
      simp only [Bool.and_eq_true] at h
      exact lowI_valid (dens_pos (fvalid_bd a h.1).2.2.1 (fvalid_bd b h.2).2.2.1) e
    · cases e
  · split at e
    · rename_i h
      simp only [Bool.and_eq_true] at h
      exact lowI_valid (dens_pos (fvalid_bd a h.1).2.2.1 (fvalid_bd b h.2).2.2.1) e
    · cases e
theorem half_part {x : Fr} (h : realOk x = true) : halfI x = partS false x 2 := by
  obtain ⟨v, i, d⟩ := real_parts h
  have hb := fvalid_bd x v
  have e1 : turnI ⟨2, 0, 1⟩ = some ⟨1, 0, 2⟩ := by decide
  have e2 : fvalid ⟨2, 0, 1⟩ = true := by decide
  have e3 : fvalid ⟨1, 0, 2⟩ = true := by decide
  have e4 : isZero ⟨2, 0, 1⟩ = false := by decide
  have e5 : max 1 x.den = x.den := by omega
  have e6 : (inB (x.den * 2) 1 1000000000000000000 && inB x.re (-1000000000000000000) 1000000000000000000 && inB 0 (-1000000000000000000) 1000000000000000000) = true := by
    simp only [Bool.and_eq_true, inB_iff]; omega
  unfold halfI overI partS makeI
  rw [e1, v, e2, e4]
  simp only [Bool.not_false, Bool.and_self, if_true, Option.bind_some, if_neg Bool.false_ne_true]
  unfold timesI
  rw [v, e3, i, e5, e6]
  simp
theorem part_part {im : Bool} {x : Fr} (v : fvalid x = true) : partI im x = partS im x 1 := by
  have hb := fvalid_bd x v
  have e5 : max 1 x.den = x.den := by omega
  unfold partI partS makeI realI imagI
  rw [v, e5, Int.mul_one]
  cases im <;> simp only [if_true, if_neg Bool.false_ne_true]
  · rw [if_pos]
    simp only [Bool.and_eq_true, inB_iff]; omega
  · rw [if_pos]
    simp only [Bool.and_eq_true, inB_iff]; omega
theorem two_eq (im p : Bool) (x y u v : Fr) : (twoE im p x y u v).2 = (twoS im p x y u v).2 ∧ ((twoE im p x y u v).2 = false → (twoE im p x y u v).1 = (twoS im p x y u v).1) := by
  unfold twoE twoS
  cases h : opI p (pairV x y) (pairV u v) with
  | none => simp
  | some f =>
    simp only [vN, Option.getD_some, Option.isNone_some, part_part (op_valid h)]
    exact ⟨trivial, fun _ => trivial⟩
theorem pow_eq (p2 p3 p4 : Bool) {a b c d : Fr} (ha : fvalid a = true) (hb : fvalid b = true) (hc : fvalid c = true) (hd : fvalid d = true) :
    (pow4 a b c d || (powE p2 p3 p4 (vN (powerI a)) (vN (powerI b)) (vN (powerI c)) (vN (powerI d))).2) = (powS p2 p3 p4 a b c d).2 ∧
    ((pow4 a b c d || (powE p2 p3 p4 (vN (powerI a)) (vN (powerI b)) (vN (powerI c)) (vN (powerI d))).2) = false → (powE p2 p3 p4 (vN (powerI a)) (vN (powerI b)) (vN (powerI c)) (vN (powerI d))).1 = (powS p2 p3 p4 a b c d).1) := by
  unfold powS powE powR pow4
  rw [(pair_self ha).1, (pair_self hb).1, (pair_self hc).1, (pair_self hd).1, (pair_self ha).2, (pair_self hb).2, (pair_self hc).2, (pair_self hd).2]
  cases ea : powerI a with
  | none => simp
  | some A =>
  cases eb : powerI b with
  | none => simp
  | some B =>
  cases ec : powerI c with
  | none => simp
  | some C =>
  cases ed : powerI d with
  | none => simp
  | some D =>
  simp only [vN, Option.getD_some, Option.isNone_some, Bool.false_or, Bool.or_false]
  cases h1 : opI p2 A B with
  | none => simp
  | some x1 =>
  simp only [Option.getD_some, Option.isNone_some, Bool.false_or, Bool.or_false]
  cases h2 : opI p3 x1 C with
  | none => simp
  | some x2 =>
  simp only [Option.getD_some, Option.isNone_some, Bool.false_or, Bool.or_false]
  cases h3 : opI p4 x2 D with
  | none => simp
  | some x3 =>
  simp only [Option.getD_some, Option.isNone_some, Bool.false_or, Bool.or_false]
  have r1 := op_real (power_real ea) (power_real eb) h1
  have r2 := op_real r1 (power_real ec) h2
  have r3 := op_real r2 (power_real ed) h3
  rw [half_part r3]
  exact ⟨rfl, fun _ => rfl⟩
theorem tab_eq (a b c d : Fr) : tabI4 (fvalid a && fvalid b && fvalid c && fvalid d) a b c d = tabS4 (fvalid a && fvalid b && fvalid c && fvalid d) a b c d := by
  unfold tabI4 tabS4
  cases hv : fvalid a && fvalid b && fvalid c && fvalid d
  · simp
  simp only [Bool.and_eq_true] at hv
  obtain ⟨⟨⟨ha, hb⟩, hc⟩, hd⟩ := hv
  have q := fun p2 p3 p4 => pow_eq p2 p3 p4 ha hb hc hd
  cases hp : pow4 a b c d
  · simp only [hp, Bool.false_or] at q
    have e : (entsI a b c d (vN (powerI a)) (vN (powerI b)) (vN (powerI c)) (vN (powerI d))).any (·.2) = (entsS a b c d).any (·.2) := by
      simp only [entsI, entsS, List.any_cons, List.any_nil, (two_eq _ _ _ _ _ _).1, (q _ _ _).1]
    simp only [Bool.not_true, Bool.false_or, e]
    cases hs : (entsS a b c d).any (·.2)
    · rw [hs] at e
      simp only [if_neg Bool.false_ne_true]
      congr 1
      simp only [entsI, List.any_cons, List.any_nil, Bool.or_false, Bool.or_eq_false_iff] at e
      obtain ⟨f0, f1, f2, f3, f4, f5, f6, f7, f8, f9, f10, f11, f12, f13, f14, f15⟩ := e
      simp only [entsI, entsS, List.map_cons, List.map_nil]
      rw [(q _ _ _).2 f0, (q _ _ _).2 f1, (two_eq _ _ _ _ _ _).2 f2, (two_eq _ _ _ _ _ _).2 f3, (q _ _ _).2 f4, (q _ _ _).2 f5, (two_eq _ _ _ _ _ _).2 f6, (two_eq _ _ _ _ _ _).2 f7, (two_eq _ _ _ _ _ _).2 f8, (two_eq _ _ _ _ _ _).2 f9, (two_eq _ _ _ _ _ _).2 f10, (two_eq _ _ _ _ _ _).2 f11, (two_eq _ _ _ _ _ _).2 f12, (two_eq _ _ _ _ _ _).2 f13, (two_eq _ _ _ _ _ _).2 f14, (two_eq _ _ _ _ _ _).2 f15]
    · simp
  · have : (entsS a b c d).any (·.2) = true := by
      have h0 := (q true true true).1
      rw [hp, Bool.true_or] at h0
      simp only [entsS, List.any_cons, ← h0, Bool.true_or]
    simp [this]
/-- The sum of n products, the program's way and the reference's. -/
def dotI (r c : Nat → Fr) : Nat → Fr × Bool
  | 0 => (zK, false)
  | k + 1 =>
    let p := timesI (r k) (c k)
    if k = 0 then (vN p, p.isNone)
    else (vN (addI (dotI r c k).1 (vN p)), ((dotI r c k).2 || p.isNone) || (addI (dotI r c k).1 (vN p)).isNone)
def dotS (r c : Nat → Fr) : Nat → Fr × Bool
  | 0 => (⟨0, 0, 1⟩, false)
  | k + 1 => (vN (addI (dotS r c k).1 (vN (timesI (r k) (c k)))), ((dotS r c k).2 || (timesI (r k) (c k)).isNone) || (addI (dotS r c k).1 (vN (timesI (r k) (c k)))).isNone)
theorem dot_eq {r c : Nat → Fr} : ∀ n, (∀ k, k < n → realOk (r k) = true) → (∀ k, k < n → realOk (c k) = true) →
    (dotI r c n).2 = (dotS r c n).2 ∧ ((dotI r c n).2 = false → 0 < n → (dotI r c n).1 = (dotS r c n).1 ∧ realOk (dotI r c n).1 = true)
  | 0, _, _ => ⟨rfl, fun _ h => absurd h (by omega)⟩
  | k + 1, hr, hc => by
    obtain ⟨h1, h2⟩ := dot_eq k (fun i hi => hr i (by omega)) (fun i hi => hc i (by omega))
    have r1 := hr k (by omega)
    have r2 := hc k (by omega)
    unfold dotI dotS
    simp only []
    cases hp : timesI (r k) (c k) with
    | none => by_cases h0 : k = 0 <;> simp [h0]
    | some x =>
      have rx := times_real r1 r2 hp
      simp only [vN, Option.getD_some, Option.isNone_some, Bool.or_false]
      by_cases h0 : k = 0
      · subst h0
        rw [if_pos rfl]
        have e : addI (dotS r c 0).1 x = some x := add_zeroK (real_parts rx).1
        rw [e]
        exact ⟨rfl, fun _ _ => ⟨rfl, rx⟩⟩
      · rw [if_neg h0, ← h1]
        cases hs : (dotI r c k).2
        · obtain ⟨e1, e2⟩ := h2 hs (by omega)
          rw [← e1]
          cases ha : addI (dotI r c k).1 x with
          | none => simp
          | some y => exact ⟨rfl, fun _ _ => ⟨rfl, add_real e2 rx ha⟩⟩
        · simp
def trow (a : List Fr) (i : Nat) (k : Nat) : Fr := a.getD (4 * i + k) zK
def tcol (b : List Fr) (j : Nat) (k : Nat) : Fr := b.getD (4 * k + j) zK
/-- The first n cells of a product of tables. -/
def ttI (a b : List Fr) : Nat → List Fr × Bool
  | 0 => ([], false)
  | n + 1 => ((ttI a b n).1 ++ [(dotI (trow a (n / 4)) (tcol b (n % 4)) 4).1], (ttI a b n).2 || (dotI (trow a (n / 4)) (tcol b (n % 4)) 4).2)
def ttS (a b : List Fr) : Nat → List Fr × Bool
  | 0 => ([], false)
  | n + 1 => ((ttS a b n).1 ++ [(dotS (trow a (n / 4)) (tcol b (n % 4)) 4).1], (ttS a b n).2 || (dotS (trow a (n / 4)) (tcol b (n % 4)) 4).2)
def ttimesI (a b : List Fr) : Option (List Fr) := if !(a.all realOk && b.all realOk) || (ttI a b 16).2 then none else some (ttI a b 16).1
def ttimesS (a b : List Fr) : Option (List Fr) := if !(a.all realOk && b.all realOk) || (ttS a b 16).2 then none else some (ttS a b 16).1
theorem getD_real {a : List Fr} (h : a.all realOk = true) {i : Nat} (hi : i < a.length) : realOk (a.getD i zK) = true := by
  rw [List.getD_eq_getElem?_getD, List.getElem?_eq_getElem hi, Option.getD_some]
  exact List.all_eq_true.1 h _ (List.getElem_mem hi)
theorem tt_eq {a b : List Fr} (ha : a.length = 16) (hb : b.length = 16) (hra : a.all realOk = true) (hrb : b.all realOk = true) :
    ∀ n, n ≤ 16 → (ttI a b n).2 = (ttS a b n).2 ∧ ((ttI a b n).2 = false → (ttI a b n).1 = (ttS a b n).1)
  | 0, _ => ⟨rfl, fun _ => rfl⟩
  | n + 1, hn => by
    obtain ⟨h1, h2⟩ := tt_eq ha hb hra hrb n (by omega)
    obtain ⟨d1, d2⟩ := dot_eq (r := trow a (n / 4)) (c := tcol b (n % 4)) 4 (fun k hk => getD_real hra (by omega)) (fun k hk => getD_real hrb (by omega))
    unfold ttI ttS
    simp only [← h1, ← d1]
    refine ⟨trivial, fun h => ?_⟩
    simp only [Bool.or_eq_false_iff] at h
    rw [h2 h.1, (d2 h.2 (by omega)).1]
theorem ttimes_eq {a b : List Fr} (ha : a.length = 16) (hb : b.length = 16) : ttimesI a b = ttimesS a b := by
  unfold ttimesI ttimesS
  cases hv : a.all realOk && b.all realOk
  · simp
  simp only [Bool.and_eq_true] at hv
  obtain ⟨h1, h2⟩ := tt_eq ha hb hv.1 hv.2 16 (by omega)
  rw [← h1]
  cases h : (ttI a b 16).2
  · simp [h2 h]
  · simp
theorem tt_len (a b : List Fr) : ∀ n, (ttI a b n).1.length = n
  | 0 => rfl
  | n + 1 => by simp [ttI, tt_len a b n]
theorem ttS_len (a b : List Fr) : ∀ n, (ttS a b n).1.length = n
  | 0 => rfl
  | n + 1 => by simp [ttS, ttS_len a b n]
theorem tab_len {v : Bool} {a b c d : Fr} {xs : List Fr} (h : tabI4 v a b c d = some xs) : xs.length = 16 := by
  unfold tabI4 at h
  simp only [] at h
  split at h
  · cases h
  · obtain rfl := Option.some.inj h; rfl
end
section
open Go.RowKit
attribute [local go_sem ↓] Go.wp_at_zero Go.wp_at_succ
/-- The cells of a list of fractions, and the value. -/
def tbc (xs : List Fr) : Array Value := (rowF xs).toArray
def tbv (xs : List Fr) : Value := .agg (tbc xs)
def zs16 : List Fr := List.replicate 16 zK
def tbb (o : Option (List Fr)) : Value := .tuple #[tbv (o.getD zs16), .bool o.isSome]
theorem tbc_size (xs : List Fr) : (tbc xs).size = xs.length * 3 := by simp [tbc, rowF_length]
theorem tbc_one (xs : List Fr) : (tbc xs).all (·.oneCell') = true := by
  rw [Array.all_eq_true_iff_forall_mem]
  intro v hv
  exact rowF_one' xs v (by simpa [tbc] using hv)
/-- Block b is a table. -/
def TbIs (w : World) (b : Nat) (xs : List Fr) : Prop := w.heap[b]? = some (.cells (tbc xs) 44 (0, 0))
section
variable {w w' : World} {b : Nat} {xs : List Fr}
theorem TbIs.lt (h : TbIs w b xs) : b < w.heap.size := by
  rcases Nat.lt_or_ge b w.heap.size with hlt | hge
  · exact hlt
  · unfold TbIs at h; rw [Array.getElem?_eq_none hge] at h; cases h
theorem TbIs.at (h : TbIs w b xs) {i : Nat} {s : Fr} (hi : xs[i]? = some s) : FAt w b (i * 3) s := by
  have key : ∀ j u, (fracL s)[j]? = some u → w.cell? ⟨b, i * 3 + j, none⟩ = some u := fun j u hj => by
    have hj4 : j < 3 := by have := (List.getElem?_eq_some_iff.1 hj).1; simpa [fracL] using this
    rw [cell_of_row w b (i * 3 + j) _ _ _ h]
    have := (rowF_get xs i s hi j hj4).trans hj
    simpa [tbc] using this
  exact ⟨key 0 _ rfl, key 1 _ rfl, key 2 _ rfl⟩
theorem TbIs.frozen (h : TbIs w b xs) (o : Nat) : w.frozen? ⟨b, o, none⟩ = false := by
  unfold TbIs at h
  simp [World.frozen?, h]
theorem TbIs.same (h : TbIs w b xs) (e : w'.heap[b]? = w.heap[b]?) : TbIs w' b xs := e.trans h
theorem TbIs.below {B : Nat} (h : TbIs w b xs) (hb : Below B w w') (hlt : b < B) : TbIs w' b xs := (hb.block b hlt).trans h
theorem TbIs.step {br : Nat} (h : TbIs w b xs) (hb : BelX w.heap.size br w w') (hne : b ≠ br) : TbIs w' b xs := (hb.block b h.lt hne).trans h
theorem TbIs.alloc (h : TbIs w b xs) (o : Obj) : TbIs (w.alloc o) b xs := (Below.heap_alloc w o b h.lt).trans h
theorem TbIs.drew (h : TbIs w b xs) : TbIs w.drew b xs := h
theorem TbIs.drewN (h : TbIs w b xs) (n : Nat) : TbIs (w.drewN n) b xs := h
theorem TbIs.far (h : TbIs w b xs) {p : Addr} (hp : b ≠ p.block) (u : Value) : TbIs (w.setCell p u) b xs := (Below.heap_setCell w p u b hp).trans h
theorem TbIs.new (w : World) (xs : List Fr) : TbIs (w.alloc (.cells (tbc xs) 44)) w.heap.size xs := by show (w.heap.push _)[w.heap.size]? = _; simp
theorem TbIs.new' {w : World} {b : Nat} (xs : List Fr) (h : b = w.heap.size) : TbIs (w.alloc (.cells (tbc xs) 44)) b xs := h ▸ TbIs.new w xs
theorem TbIs.put (h : TbIs w b xs) {i : Nat} (hi : i < xs.length) (s : Fr) :
    TbIs (((w.setCell ⟨b, i * 3, none⟩ (.int .i64 s.re)).setCell ⟨b, i * 3 + 1, none⟩ (.int .i64 s.im)).setCell ⟨b, i * 3 + 2, none⟩ (.int .i64 s.den)) b (xs.set i s) := by
  have e : tbc (xs.set i s) = (((tbc xs).setIfInBounds (i * 3) (.int .i64 s.re)).setIfInBounds (i * 3 + 1) (.int .i64 s.im)).setIfInBounds (i * 3 + 2) (.int .i64 s.den) := by
    unfold tbc
    rw [← rowF_put xs i s hi]
    simp
  unfold TbIs at h ⊢
  rw [e]
  simp [World.setCell, Array.getElem?_modify, h]
theorem TbIs.zero (w : World) : TbIs (w.alloc (.cells #[.int .i64 0, .int .i64 0, .int .i64 0, .int .i64 0, .int .i64 0, .int .i64 0, .int .i64 0, .int .i64 0, .int .i64 0, .int .i64 0, .int .i64 0, .int .i64 0, .int .i64 0, .int .i64 0, .int .i64 0, .int .i64 0, .int .i64 0, .int .i64 0, .int .i64 0, .int .i64 0, .int .i64 0, .int .i64 0, .int .i64 0, .int .i64 0, .int .i64 0, .int .i64 0, .int .i64 0, .int .i64 0, .int .i64 0, .int .i64 0, .int .i64 0, .int .i64 0, .int .i64 0, .int .i64 0, .int .i64 0, .int .i64 0, .int .i64 0, .int .i64 0, .int .i64 0, .int .i64 0, .int .i64 0, .int .i64 0, .int .i64 0, .int .i64 0, .int .i64 0, .int .i64 0, .int .i64 0, .int .i64 0] 44)) w.heap.size zs16 := TbIs.new w zs16
theorem TbIs.get (h : TbIs w b xs) {i : Nat} (hi : i < xs.length) : FAt w b (i * 3) (xs.getD i zK) := by
  rw [List.getD_eq_getElem?_getD, List.getElem?_eq_getElem hi, Option.getD_some]
  exact h.at (List.getElem?_eq_getElem hi)
end
end
section
open Go.RowKit
/-- A station. -/
structure Sta where
  p : Int
  q : Int
  deriving DecidableEq
abbrev stv (s : Sta) : Value := .agg #[.int .i64 s.p, .int .i64 s.q]
def staL (s : Sta) : List Value := [.int .i64 s.p, .int .i64 s.q]
def rowA (xs : List Sta) : List Value := xs.flatMap staL
theorem rowA_cons (s : Sta) (xs : List Sta) : rowA (s :: xs) = staL s ++ rowA xs := by simp [rowA]
theorem rowA_append (xs ys : List Sta) : rowA (xs ++ ys) = rowA xs ++ rowA ys := by simp [rowA]
theorem rowA_one (s : Sta) : rowA [s] = staL s := by simp [rowA]
theorem rowA_length : ∀ xs : List Sta, (rowA xs).length = xs.length * 2
  | [] => rfl
  | s :: xs => by rw [rowA_cons, List.length_append, rowA_length xs, List.length_cons]; simp only [staL, List.length_cons, List.length_nil]; omega
theorem rowA_take : ∀ (xs : List Sta) (k : Nat), (rowA xs).take (k * 2) = rowA (xs.take k)
  | [], k => by simp [rowA]
  | s :: xs, 0 => by simp [rowA]
  | s :: xs, k + 1 => by
    rw [rowA_cons, List.take_succ_cons, rowA_cons, ← rowA_take xs k, show (k + 1) * 2 = (staL s).length + k * 2 by simp [staL]; omega, List.take_length_add_append]
theorem rowA_get : ∀ (xs : List Sta) (i : Nat) (s : Sta), xs[i]? = some s → ∀ j, j < 2 → (rowA xs)[i * 2 + j]? = (staL s)[j]?
  | [], i, s, h, _, _ => by simp at h
  | x :: xs, 0, s, h, j, hj => by
    simp at h; subst h
    rw [rowA_cons, Nat.zero_mul, Nat.zero_add, List.getElem?_append_left (by simpa [staL] using hj)]
  | x :: xs, i + 1, s, h, j, hj => by
    rw [rowA_cons, List.getElem?_append_right (by simp [staL]; omega), show (i + 1) * 2 + j - (staL x).length = i * 2 + j by simp [staL]; omega]
    exact rowA_get xs i s (by simpa using h) j hj
/-- The cells of one section, from a place on. -/
def PAt (w : World) (b o : Nat) (s : Sta) : Prop :=
  w.cell? ⟨b, o, none⟩ = some (.int .i64 s.p) ∧ w.cell? ⟨b, o + 1, none⟩ = some (.int .i64 s.q)
theorem PAt.below {w w' : World} {b o B : Nat} {s : Sta} (h : PAt w b o s) (hb : Below B w w') (hlt : b < B) : PAt w' b o s :=
  ⟨(hb.cell hlt).trans h.1, (hb.cell hlt).trans h.2⟩

/-- A list of sections that lies in the world, to be read. -/
def Sas (A : Option Addr) (len cap : Nat) (xs : List Sta) (w : World) : Prop := xs.length = len ∧ len ≤ cap ∧ cap ≤ 9223372036854775807 ∧
  (0 < len → ∃ bb off : Nat, A = some ⟨bb, off, none⟩ ∧ bb < w.heap.size ∧ ∀ i s, xs[i]? = some s → PAt w bb (off + i * 2) s)
theorem Sas.below {A : Option Addr} {len cap : Nat} {xs : List Sta} {w w' : World} (h : Sas A len cap xs w) (hb : Below w.heap.size w w') : Sas A len cap xs w' := by
  obtain ⟨h1, h2, h3, h4⟩ := h
  refine ⟨h1, h2, h3, fun h0 => ?_⟩
  obtain ⟨bb, off, e, hbb, hc⟩ := h4 h0
  exact ⟨bb, off, e, Nat.lt_of_lt_of_le hbb hb.size, fun i s hi => (hc i s hi).below hb hbb⟩
theorem Sas.take {A : Option Addr} {len cap : Nat} {xs : List Sta} {w : World} (h : Sas A len cap xs w) (n : Nat) (hn : n ≤ len) : Sas A n cap (xs.take n) w := by
  obtain ⟨h1, h2, h3, h4⟩ := h
  refine ⟨by rw [List.length_take]; omega, by omega, h3, fun h0 => ?_⟩
  obtain ⟨bb, off, e, hbb, hc⟩ := h4 (by omega)
  refine ⟨bb, off, e, hbb, fun i s hi => hc i s ?_⟩
  rw [List.getElem?_take] at hi
  split at hi
  · exact hi
  · cases hi
/-- Element i, to be read in a later world. -/
theorem Sas.at {A : Option Addr} {len cap : Nat} {xs : List Sta} {w : World} (h : Sas A len cap xs w) {w' : World} (hb : Below w.heap.size w w') {k : Nat} (hk : k < len) :
    ∃ (bb off : Nat) (s : Sta), A = some ⟨bb, off, none⟩ ∧ bb < w.heap.size ∧ xs[k]? = some s ∧ PAt w' bb (off + k * 2) s := by
  obtain ⟨h1, h2, h3, h4⟩ := h
  obtain ⟨bb, off, e, hbb, hc⟩ := h4 (by omega)
  have hs : xs[k]? = some (xs[k]'(by omega)) := List.getElem?_eq_getElem (by omega)
  exact ⟨bb, off, _, e, hbb, hs, (hc k _ hs).below hb hbb⟩

/-- A list of sections that the call made: no cell of it is frozen, and it begins at the head of its block. -/
def OwA (base : Nat) (v : Value) (xs : List Sta) (w : World) : Prop := w.ownsRow base 40 2 v xs.length (rowA xs)
theorem OwA.nil (base : Nat) (w : World) : OwA base (.slice none 0 0) [] w := World.ownsRow_nil _ _ _ _
theorem OwA.below {base : Nat} {v : Value} {xs : List Sta} {w w' : World} (h : OwA base v xs w) (hb : Below w.heap.size w w') : OwA base v xs w' := by
  refine ⟨h.1, ?_⟩
  rcases h.2 with hn | ⟨g, cap, cur, rfl, hbg, hg, rest⟩
  · exact .inl hn
  · exact .inr ⟨g, cap, cur, rfl, hbg, (hb.block g (Array.getElem?_eq_some_iff.1 hg).1).trans hg, rest⟩
theorem OwA.grown {base : Nat} {v : Value} {xs : List Sta} {w w' : World} {row : Option Nat} (h : OwA base v xs w) (hg : w.grownBy w' row) (hne : v.ownBlock = none ∨ v.ownBlock ≠ row) : OwA base v xs w' := World.ownsRow.kept h hg hne
theorem OwA.alloc {base : Nat} {v : Value} {xs : List Sta} {w : World} (h : OwA base v xs w) (o : Obj) : OwA base v xs (w.alloc o) := World.ownsRow.alloc h o
theorem OwA.drew {base : Nat} {v : Value} {xs : List Sta} {w : World} (h : OwA base v xs w) : OwA base v xs w.drew := h
theorem OwA.drewN {base : Nat} {v : Value} {xs : List Sta} {w : World} (h : OwA base v xs w) (n : Nat) : OwA base v xs (w.drewN n) := h
theorem OwA.mono {base base' : Nat} {v : Value} {xs : List Sta} {w : World} (h : OwA base v xs w) (hb : base' ≤ base) : OwA base' v xs w := by
  refine ⟨h.1, ?_⟩
  rcases h.2 with hn | ⟨g, cap, cur, rfl, hbg, rest⟩
  · exact .inl hn
  · exact .inr ⟨g, cap, cur, rfl, by omega, rest⟩
/-- What is owned can be read. -/
theorem OwA.frs {base : Nat} {v : Value} {xs : List Sta} {w : World} (h : OwA base v xs w) : ∃ A cap, v = .slice A xs.length cap ∧ Sas A xs.length cap xs w := by
  rcases h.2 with ⟨rfl, h0⟩ | ⟨g, cap, cur, rfl, hbg, hg, hn, hm, hs, ht⟩
  · exact ⟨none, 0, by rw [h0], rfl, by omega, by omega, fun h => by omega⟩
  · have hlt := (Array.getElem?_eq_some_iff.1 hg).1
    have hc := World.ownsRow.cells h (g := g) rfl
    have key : ∀ i s, xs[i]? = some s → ∀ j u, (staL s)[j]? = some u → w.cell? ⟨g, i * 2 + j, none⟩ = some u := by
      intro i s hi j u hj
      have hj4 : j < 2 := by have := (List.getElem?_eq_some_iff.1 hj).1; simpa [staL] using this
      have := hc (i * 2 + j) u ((rowA_get xs i s hi j hj4).trans hj)
      rwa [add_noneF] at this
    refine ⟨some ⟨g, 0, none⟩, cap, rfl, rfl, hn, by unfold maxLen at hm; omega, fun _ => ⟨g, 0, rfl, hlt, fun i s hi => ?_⟩⟩
    rw [Nat.zero_add]
    exact ⟨key i s hi 0 _ rfl, key i s hi 1 _ rfl⟩
/-- Its own cells may be written. -/
theorem OwA.free {base : Nat} {v : Value} {xs : List Sta} {w : World} (h : OwA base v xs w) (k : Nat) (hk : k < xs.length) : ∃ g cap, v = .slice (some ⟨g, 0, none⟩) xs.length cap ∧ base ≤ g ∧ g < w.heap.size ∧ ∀ j, w.frozen? ⟨g, j, none⟩ = false := by
  rcases h.2 with ⟨rfl, h0⟩ | ⟨g, cap, cur, rfl, hbg, hg, hn, hm, hs, ht⟩
  · omega
  · exact ⟨g, cap, rfl, hbg, (Array.getElem?_eq_some_iff.1 hg).1, fun j => by simp [World.frozen?, hg]⟩
theorem OwA.lt {base : Nat} {v : Value} {xs : List Sta} {w : World} (h : OwA base v xs w) : ∀ k, v.ownBlock = some k → base ≤ k ∧ k < w.heap.size := World.ownsRow.lt h
/-- A shorter cut of it is owned as well. -/
theorem OwA.cut {base g n cap : Nat} {xs : List Sta} {w : World} (h : OwA base (.slice (some ⟨g, 0, none⟩) n cap) xs w) (m : Nat) (hm : m ≤ xs.length) : OwA base (.slice (some ⟨g, 0, none⟩) m cap) (xs.take m) w := by
  rcases h.2 with ⟨h0, _⟩ | ⟨g', cap', cur, h0, hbg, hg, hn, hmx, hs, ht⟩
  · simp at h0
  · simp only [Value.slice.injEq, Option.some.injEq, Addr.mk.injEq, and_true, true_and] at h0
    obtain ⟨rfl, rfl, rfl⟩ := h0
    have hl : (xs.take m).length = m := by rw [List.length_take]; omega
    refine ⟨rowA_length _, .inr ⟨g, cap, cur, by rw [hl], hbg, hg, by rw [hl]; omega, hmx, hs, ?_⟩⟩
    rw [hl, ← rowA_take, ← ht, List.take_take]
    congr 1
    omega
theorem rowA_put : ∀ (ys : List Sta) (i : Nat) (s : Sta), i < ys.length → ((rowA ys).set (i * 2) (.int .i64 s.p)).set (i * 2 + 1) (.int .i64 s.q) = rowA (ys.set i s)
  | [], i, s, h => by simp at h
  | y :: ys, 0, s, _ => by simp [rowA_cons, staL]
  | y :: ys, i + 1, s, h => by
    rw [List.set_cons_succ, rowA_cons, rowA_cons, ← rowA_put ys i s (by simpa using h), show (i + 1) * 2 = i * 2 + 2 by omega]
    simp only [staL, List.cons_append, List.nil_append, List.set_cons_succ, show i * 2 + 2 = i * 2 + 1 + 1 by omega, show i * 2 + 1 + 1 + 1 = (i * 2 + 1) + 1 + 1 by omega]
/-- One section of it is written anew. -/
theorem OwA.put {base : Nat} {v : Value} {ys : List Sta} {w : World} (h : OwA base v ys w) {g : Nat} (hg : v.ownBlock = some g) (i : Nat) (hi : i < ys.length) (s : Sta) :
    OwA base v (ys.set i s) ((w.setCell ⟨g, i * 2, none⟩ (.int .i64 s.p)).setCell ⟨g, i * 2 + 1, none⟩ (.int .i64 s.q)) := by
  have hl := rowA_length ys
  have h1 := ownsRow_setF h hg (i * 2) (by omega) (.int .i64 s.p) rfl
  have h2 := ownsRow_setF h1 hg (i * 2 + 1) (by rw [List.length_set]; omega) (.int .i64 s.q) rfl
  rw [rowA_put ys i s hi] at h2
  unfold OwA
  rw [List.length_set]
  exact h2
/-- Element i of what is owned: its place, its cells, and that they may be written. -/
theorem OwA.at {base : Nat} {v : Value} {xs : List Sta} {w : World} (h : OwA base v xs w) (k : Nat) (s : Sta) (hs : xs[k]? = some s) :
    ∃ g cap, v = .slice (some ⟨g, 0, none⟩) xs.length cap ∧ base ≤ g ∧ g < w.heap.size ∧ PAt w g (k * 2) s ∧ (w.frozen? ⟨g, k * 2, none⟩ = false ∧ w.frozen? ⟨g, k * 2 + 1, none⟩ = false) := by
  have hk := (List.getElem?_eq_some_iff.1 hs).1
  obtain ⟨g, cap, e, hb, hlt, hf⟩ := h.free k hk
  obtain ⟨A, cap', e', hS⟩ := h.frs
  obtain ⟨bb, off, s', eA, hbb, hs', hat⟩ := hS.at (Below.refl _ _) hk
  rw [e] at e'
  simp only [Value.slice.injEq, true_and] at e'
  obtain ⟨e1, e2⟩ := e'
  rw [eA] at e1
  simp only [Option.some.injEq, Addr.mk.injEq, and_true] at e1
  obtain ⟨rfl, rfl⟩ := e1
  obtain rfl : s = s' := by rw [hs] at hs'; exact Option.some.inj hs'
  rw [Nat.zero_add] at hat
  exact ⟨g, cap, e, hb, hlt, hat, hf _, hf _⟩
theorem OwA.block {base : Nat} {v : Value} {xs : List Sta} {w : World} {g n cap : Nat} (_ : OwA base v xs w) (e : v = .slice (some ⟨g, 0, none⟩) n cap) : v.ownBlock = some g := by rw [e]; rfl

theorem OwA.far {base : Nat} {v : Value} {xs : List Sta} {w : World} (h : OwA base v xs w) {p : Addr} (hp : ∀ k, v.ownBlock = some k → k ≠ p.block) (u : Value) : OwA base v xs (w.setCell p u) := by
  refine ⟨h.1, ?_⟩
  rcases h.2 with hn | ⟨g, cap, cur, rfl, hbg, hg, rest⟩
  · exact .inl hn
  · exact .inr ⟨g, cap, cur, rfl, hbg, (Below.heap_setCell w p u g (hp g rfl)).trans hg, rest⟩
theorem Sas.grown {A : Option Addr} {len cap : Nat} {xs : List Sta} {w w' : World} {row : Option Nat} (h : Sas A len cap xs w) (hg : w.grownBy w' row) (hne : ∀ b o, A = some ⟨b, o, none⟩ → row ≠ some b) : Sas A len cap xs w' := by
  obtain ⟨h1, h2, h3, h4⟩ := h
  refine ⟨h1, h2, h3, fun h0 => ?_⟩
  obtain ⟨bb, off, e, hbb, hc⟩ := h4 h0
  have hk : ∀ p : Addr, p.block = bb → w'.cell? p = w.cell? p := fun p hp => World.cell?_of_block (by rw [hp]; exact hg.block bb hbb (fun e' => hne bb off e e'.symm))
  exact ⟨bb, off, e, Nat.lt_of_lt_of_le hbb hg.size, fun i s hi => ⟨(hk _ rfl).trans (hc i s hi).1, (hk _ rfl).trans (hc i s hi).2⟩⟩
end
section
open Go.RowKit
theorem setRow_far (w : World) (g i : Nat) (cs : Array Value) (h : i ≠ g) : (w.setRow g cs).heap[i]? = w.heap[i]? := by
  simp only [World.setRow, Array.getElem?_modify]
  rw [if_neg (fun e => h e.symm)]
theorem setRow_size (w : World) (g : Nat) (cs : Array Value) : (w.setRow g cs).heap.size = w.heap.size := by simp [World.setRow]
theorem belX_setRow {B bs g : Nat} {a w : World} (h : BelX B bs a w) (hg : B ≤ g) (cs : Array Value) : BelX B bs a (w.setRow g cs) :=
  h.trans ⟨rfl, rfl, rfl, by rw [setRow_size]; exact Nat.le_refl _, fun k hk _ => setRow_far w g k cs (by omega)⟩
theorem below_setRow {B g : Nat} {a w : World} (h : Below B a w) (hg : B ≤ g) (cs : Array Value) : Below B a (w.setRow g cs) :=
  h.trans ⟨rfl, rfl, rfl, by rw [setRow_size]; exact Nat.le_refl _, fun k hk => setRow_far w g k cs (by omega)⟩
/-- A block's cells, and that it may be written. -/
structure RJ (W0 : World) (bs : Nat) (bad : Nat → Bool) (als : List (Nat × Nat)) (st : Nat → Nat) (cz : Array Value) (cv : Nat → Array Value) (ty : TypeId) (m : Nat → Option Nat) (k : Nat) (W : World) : Prop where
  X : BelX W0.heap.size bs W0 W
  s : SumIs W bs (bad k)
  b : ∀ t b, m t = some b → W0.heap.size ≤ b ∧ Blk W b (if st t < k then cv t else cz) ty
  d : ∀ t t' b, m t = some b → m t' = some b → t = t'
  n : ∀ t, m t = none → (ixOf als t).isSome = true → k ≤ st t
  a : ∀ t, (m t).isSome = true → (ixOf als t).isSome = true
section
variable {P : Program} {W0 : World} {bs : Nat} {bad : Nat → Bool} {als : List (Nat × Nat)} {st : Nat → Nat} {cz : Array Value} {cv : Nat → Array Value} {ty : TypeId}
theorem rj_start (h : SumIs W0 bs (bad 0)) : RJ W0 bs bad als st cz cv ty (fun _ => none) 0 W0.drew :=
  ⟨(BelX.refl _ _ _).drew, h.drew, (fun _ _ h => nomatch h), (fun _ _ _ h => nomatch h), fun _ _ _ => Nat.zero_le _, (fun _ h => nomatch h)⟩
theorem rj_call {f : FuncId} (vs : List Value) (y : Value) {nn : Bool} {k : Nat} (hbs : bs < W0.heap.size) (hst : ∀ t, (ixOf als t).isSome = true → st t ≠ k) (hb : bad (k + 1) = (bad k || nn))
    (hC : ∀ w, SumEx w bs → BelX W0.heap.size bs W0 w → Calls P f vs.toArray w fun e w' => e = .returned y ∧ (∀ c, SumIs w bs c → SumIs w' bs (c || nn)) ∧ BelX w.heap.size bs w w') :
    ∀ m w, RJ W0 bs bad als st cz cv ty m k w → Calls P f vs.toArray w fun e w' => e = .returned y ∧ RJ W0 bs bad als st cz cv ty m (k + 1) w' := by
  intro m w h
  refine (hC w (SumEx.of h.s) h.X).mono ?_
  rintro e w' ⟨rfl, hu, hx⟩
  refine ⟨rfl, h.X.step hx h.X.size, ?_, fun t b hm => ?_, h.d, fun t hm ht => ?_, h.a⟩
  · rw [hb]; exact hu _ h.s
  · obtain ⟨h1, h2⟩ := h.b t b hm
    have hne := hst t (h.a t (by rw [hm]; rfl))
    have hlt := (Array.getElem?_eq_some_iff.1 h2).1
    refine ⟨h1, (hx.block b hlt (by omega)).trans ?_⟩
    rw [h2]
    by_cases h3 : st t < k
    · rw [if_pos h3, if_pos (by omega)]
    · rw [if_neg h3, if_neg (by omega)]
  · have := h.n t hm ht
    have := hst t ht
    omega
theorem rj_alloc {t : Nat} (ht : (ixOf als t).isSome = true) (hrun : ∀ w, (Instr.alloc ty true (.tuple #[])).run P w = .ok (.pointer (some ⟨w.heap.size, 0, none⟩)) (w.alloc (.cells cz ty))) :
    ∀ m k w, RJ W0 bs bad als st cz cv ty m k w → m t = none → ∃ b w', (Instr.alloc ty true (.tuple #[])).run P w = .ok (.pointer (some ⟨b, 0, none⟩)) w' ∧ RJ W0 bs bad als st cz cv ty (fun t' => if t' = t then some b else m t') k w' := by
  intro m k w h hm
  have hnew : ∀ t' b, m t' = some b → b < w.heap.size := fun t' b h1 => (Array.getElem?_eq_some_iff.1 (h.b t' b h1).2).1
  refine ⟨_, _, hrun w, h.X.alloc h.X.size _, h.s.alloc _, fun t' b hb => ?_, fun t1 t2 b h1 h2 => ?_, fun t' h1 h2 => ?_, fun t' h1 => ?_⟩
  · by_cases e : t' = t
    · rw [if_pos e] at hb
      obtain rfl := Option.some.inj hb
      have := h.n t hm ht
      rw [e, if_neg (by omega)]
      exact ⟨h.X.size, heap_alloc_last w _⟩
    · rw [if_neg e] at hb
      obtain ⟨g1, g2⟩ := h.b t' b hb
      exact ⟨g1, (Below.heap_alloc w _ b (hnew t' b hb)).trans g2⟩
  · by_cases e1 : t1 = t <;> by_cases e2 : t2 = t
    · rw [e1, e2]
    · rw [if_pos e1] at h1; rw [if_neg e2] at h2
      obtain rfl := Option.some.inj h1
      have := hnew _ _ h2; omega
    · rw [if_neg e1] at h1; rw [if_pos e2] at h2
      obtain rfl := Option.some.inj h2
      have := hnew _ _ h1; omega
    · rw [if_neg e1] at h1; rw [if_neg e2] at h2
      exact h.d t1 t2 b h1 h2
  · by_cases e : t' = t
    · rw [if_pos e] at h1; cases h1
    · rw [if_neg e] at h1; exact h.n t' h1 h2
  · by_cases e : t' = t
    · rw [e]; exact ht
    · rw [if_neg e] at h1; exact h.a t' h1
theorem rj_store {t k : Nat} (hbs : bs < W0.heap.size) (hst : st t = k) (hinj : ∀ t', (ixOf als t').isSome = true → st t' = k → t' = t) (hb : bad (k + 1) = bad k) (hz : cz.size = (cv t).size) (h1 : (cv t).all (·.oneCell') = true) (hi : (P.info? ty).map (·.size) = some (cv t).size) :
    ∀ m w b, RJ W0 bs bad als st cz cv ty m k w → m t = some b → ∃ w', (Instr.storeAt ty (.pointer (some ⟨b, 0, none⟩)) (.agg (cv t))).run P w = .ok () w' ∧ RJ W0 bs bad als st cz cv ty m (k + 1) w' := by
  intro m w b h hm
  obtain ⟨g1, g2⟩ := h.b t b hm
  have h0 : Blk w b cz ty := by rw [if_neg (by omega)] at g2; exact g2
  refine ⟨w.setRow b (cv t), ?_, belX_setRow h.X g1 _, ?_, fun t' b' hb' => ?_, h.d, fun t' h2 h3 => ?_, h.a⟩
  · simp only [Instr.storeAt, Instr.sureAddr, Sem.run_bind, Sem.run_pure, Result.andThen_ok]
    exact run_storeVar_row w b ty ty cz (cv t) h0 hi hz h1
  · rw [hb]; exact (setRow_far w b bs _ (by omega)).trans h.s
  · by_cases e : t' = t
    · subst e
      rw [hm] at hb'; obtain rfl := Option.some.inj hb'
      rw [if_pos (by omega)]
      exact ⟨g1, setRow_heap w b cz (cv t') ty (0, 0) h0⟩
    · obtain ⟨g3, g4⟩ := h.b t' b' hb'
      have hne : b' ≠ b := fun e2 => e (h.d t' t b (e2 ▸ hb') hm)
      have hs' : st t' ≠ k := fun e2 => e (hinj t' (h.a t' (by rw [hb']; rfl)) e2)
      refine ⟨g3, (setRow_far w b b' _ hne).trans ?_⟩
      rw [g4]
      by_cases h5 : st t' < k
      · rw [if_pos h5, if_pos (by omega)]
      · rw [if_neg h5, if_neg (by omega)]
  · have h4 := h.n t' h2 h3
    have : st t' ≠ k := fun e2 => by
      have := hinj t' h3 e2
      rw [this, hm] at h2; cases h2
    omega
/-- A load from a block that was there. -/
theorem rj_load {ty' : TypeId} {b : Nat} {cs : Array Value} {d : TypeDesc} (hb : Blk W0 b cs ty') (hne : b ≠ bs) (hu : P.underlying ty' = some d) (hd : (match d with | .struct _ | .array _ _ => true | _ => false) = true) (hi : (P.info? ty').map (·.size) = some cs.size) :
    ∀ m k w, RJ W0 bs bad als st cz cv ty m k w → (Instr.loadAt ty' (.pointer (some ⟨b, 0, none⟩))).run P w = .ok (.agg cs) w := by
  intro m k w h
  have hlt := (Array.getElem?_eq_some_iff.1 hb).1
  simp only [Instr.loadAt, Instr.sureAddr, Sem.run_bind, Sem.run_pure, Result.andThen_ok]
  exact run_loadVar_row w b ty' ty' cs (0, 0) d ((h.X.block b hlt hne).trans hb) hu hd hi
end
theorem ix_mem : ∀ (als : List (Nat × Nat)) (t : Nat), (ixOf als t).isSome = true → ∃ q ∈ als, q.1 = t
  | [], t, h => by simp [ixOf] at h
  | (a, b) :: l, t, h => by
    by_cases e : t = a
    · exact ⟨(a, b), by simp, e.symm⟩
    · have : (ixOf l t).isSome = true := by
        unfold ixOf at h ⊢
        rw [List.lookup_cons] at h
        have e2 : (t == a) = false := by simpa using e
        rw [e2] at h
        exact h
      obtain ⟨q, h1, h2⟩ := ix_mem l t this
      exact ⟨q, List.mem_cons_of_mem _ h1, h2⟩
theorem ix_inj {als : List (Nat × Nat)} {st : Nat → Nat} {k t : Nat} (h : (als.all fun q => !(st q.1 == k) || q.1 == t) = true) : ∀ t', (ixOf als t').isSome = true → st t' = k → t' = t := fun t' h1 h2 => by
  obtain ⟨q, hq, rfl⟩ := ix_mem als t' h1
  have := List.all_eq_true.1 h q hq
  simp only [Bool.or_eq_true, Bool.not_eq_true', beq_eq_false_iff_ne, beq_iff_eq] at this
  rcases this with h3 | h3
  · exact absurd h2 h3
  · exact h3
theorem ix_ne {als : List (Nat × Nat)} {st : Nat → Nat} {k : Nat} (h : (als.all fun q => !(st q.1 == k)) = true) : ∀ t', (ixOf als t').isSome = true → st t' ≠ k := fun t' h1 => by
  obtain ⟨q, hq, rfl⟩ := ix_mem als t' h1
  have := List.all_eq_true.1 h q hq
  simpa using this
theorem ix_lt {als : List (Nat × Nat)} {base : Nat} (h : (als.all fun q => decide (q.1 < base)) = true) : ∀ t, (ixOf als t).isSome = true → t < base := fun t h1 => by
  obtain ⟨q, hq, rfl⟩ := ix_mem als t h1
  simpa using List.all_eq_true.1 h q hq
/-- The temporaries, written out. -/
theorem act_ext {a : Act} {n : Nat} {d : List Deferred} (h1 : a.tmps.size = n) (h2 : a.defers = d) : a = { tmps := ((List.range n).map fun t => a.eval (.tmp t)).toArray, defers := d } := by
  obtain ⟨tm, df⟩ := a
  subst h2
  simp only at h1
  congr 1
  apply Array.ext_getElem?
  intro i
  subst h1
  simp only [List.getElem?_toArray, List.getElem?_map, List.getElem?_range']
  by_cases h : i < tm.size
  · rw [List.getElem?_eq_getElem (by simpa using h), List.getElem_range]
    simp [Act.eval, h]
  · rw [List.getElem?_eq_none (by simpa using h)]
    simp [h]
theorem nth_get : ∀ (l : List Value) (t : Nat), nth l t = l.getD t undef
  | [], t => by simp [nth]
  | x :: l, 0 => rfl
  | x :: l, t + 1 => by rw [nth, nth_get l t]; simp
theorem act_ext2 {a : Act} {d : List Deferred} (l : List Value) (h1 : a.tmps.size = l.length) (h2 : a.defers = d) (h : ∀ t, t < l.length → a.eval (.tmp t) = nth l t) : a = { tmps := l.toArray, defers := d } := by
  obtain ⟨tm, df⟩ := a
  subst h2
  simp only at h1
  congr 1
  apply Array.ext_getElem?
  intro i
  by_cases hi : i < l.length
  · have := h i hi
    rw [nth_get] at this
    simp only [Act.eval] at this
    rw [Array.getElem?_eq_getElem (by omega), List.getElem?_toArray, List.getElem?_eq_getElem hi]
    simp only [Array.getD_eq_getD_getElem?, Array.getElem?_eq_getElem (show i < tm.size by omega), List.getD_eq_getElem?_getD, List.getElem?_eq_getElem hi, Option.getD_some] at this
    rw [this]
  · rw [Array.getElem?_eq_none (by omega), List.getElem?_toArray, List.getElem?_eq_none (by omega)]
theorem act_ext3 {a : Act} {d : List Deferred} (n : Nat) (l : List Value) (hn : l.length = n) (h1 : a.tmps.size = n) (h2 : a.defers = d) (h : ∀ t, t < n → a.eval (.tmp t) = nth l t) : a = { tmps := l.toArray, defers := d } :=
  act_ext2 l (by omega) h2 (by rw [hn]; exact h)
end
section
open Go.RowKit
/-- The reckoning bs and the block fb change; nothing else that was there does. fc: what fb holds, by the number of the chain. -/
structure RK (W0 : World) (bs fb : Nat) (bad : Nat → Bool) (fc : Nat → Array Value) (fty : TypeId) (k : Nat) (W : World) : Prop where
  os : W.os = W0.os
  tape : W.tape = W0.tape
  output : W.output = W0.output
  size : W0.heap.size ≤ W.heap.size
  block : ∀ b, b < W0.heap.size → b ≠ bs → b ≠ fb → W.heap[b]? = W0.heap[b]?
  s : SumIs W bs (bad k)
  c : Blk W fb (fc k) fty
/-- With one more chain of new variables left out: for regions without new variables. -/
def RKm (W0 : World) (bs fb : Nat) (bad : Nat → Bool) (fc : Nat → Array Value) (fty : TypeId) (_ : Nat → Option Nat) (k : Nat) (W : World) : Prop := RK W0 bs fb bad fc fty k W
section
variable {P : Program} {W0 : World} {bs fb : Nat} {bad : Nat → Bool} {fc : Nat → Array Value} {fty : TypeId}
theorem rk_start (hs : SumIs W0 bs (bad 0)) (hc : Blk W0 fb (fc 0) fty) : RKm W0 bs fb bad fc fty (fun _ => none) 0 W0.drew := ⟨rfl, rfl, rfl, Nat.le_refl _, fun _ _ _ _ => rfl, hs, hc⟩
theorem RK.below {B : Nat} {w W : World} {k : Nat} (h : RK W0 bs fb bad fc fty k W) (hb : Below B w W0) (h1 : B ≤ bs) (h2 : B ≤ fb) (hbs : bs < W0.heap.size) : Below B w W :=
  hb.trans ⟨h.os, h.tape, h.output, h.size, fun b hlt => h.block b (by omega) (by omega) (by omega)⟩
theorem rk_call {f : FuncId} (vs : List Value) (y : Value) {nn : Bool} {k : Nat} (hbs : bs < W0.heap.size) (hfb : fb < W0.heap.size) (hne : fb ≠ bs) (hb : bad (k + 1) = (bad k || nn)) (hf : fc (k + 1) = fc k)
    (hC : ∀ w, SumEx w bs → Calls P f vs.toArray w fun e w' => e = .returned y ∧ (∀ c, SumIs w bs c → SumIs w' bs (c || nn)) ∧ BelX w.heap.size bs w w') :
    ∀ m w, RKm W0 bs fb bad fc fty m k w → Calls P f vs.toArray w fun e w' => e = .returned y ∧ RKm W0 bs fb bad fc fty m (k + 1) w' := by
  intro m w h
  have hz := h.size
  refine (hC w (SumEx.of h.s)).mono ?_
  rintro e w' ⟨rfl, hu, hx⟩
  refine ⟨rfl, hx.os.trans h.os, hx.tape.trans h.tape, hx.output.trans h.output, Nat.le_trans hz hx.size, fun b h1 h2 h3 => (hx.block b (by omega) h2).trans (h.block b h1 h2 h3), ?_, ?_⟩
  · rw [hb]; exact hu _ h.s
  · rw [hf]; exact (hx.block fb (by omega) hne).trans h.c
theorem rk_store {k : Nat} (hne : fb ≠ bs) (hb : bad (k + 1) = bad k) (hz : (fc k).size = (fc (k + 1)).size) (h1 : (fc (k + 1)).all (·.oneCell') = true) (hi : (P.info? fty).map (·.size) = some (fc (k + 1)).size) :
    ∀ m w, RKm W0 bs fb bad fc fty m k w → ∃ w', (Instr.storeAt fty (.pointer (some ⟨fb, 0, none⟩)) (.agg (fc (k + 1)))).run P w = .ok () w' ∧ RKm W0 bs fb bad fc fty m (k + 1) w' := by
  intro m w h
  refine ⟨w.setRow fb (fc (k + 1)), ?_, h.os, h.tape, h.output, by rw [setRow_size]; exact h.size, fun b h1 h2 h3 => (setRow_far w fb b _ h3).trans (h.block b h1 h2 h3), ?_, setRow_heap w fb (fc k) _ fty (0, 0) h.c⟩
  · simp only [Instr.storeAt, Instr.sureAddr, Sem.run_bind, Sem.run_pure, Result.andThen_ok]
    exact run_storeVar_row w fb fty fty (fc k) (fc (k + 1)) h.c hi hz h1
  · rw [hb]; exact (setRow_far w fb bs _ (fun e => hne e.symm)).trans h.s
theorem rk_loadA {c : Nat} {cs : Array Value} {d : TypeDesc} (hf : ∀ k, k ≤ c → fc k = cs) (hu : P.underlying fty = some d) (hd : (match d with | .struct _ | .array _ _ => true | _ => false) = true) (hi : (P.info? fty).map (·.size) = some cs.size) :
    ∀ m k w, k ≤ c → RKm W0 bs fb bad fc fty m k w → (Instr.loadAt fty (.pointer (some ⟨fb, 0, none⟩))).run P w = .ok (.agg cs) w := by
  intro m k w hk h
  simp only [Instr.loadAt, Instr.sureAddr, Sem.run_bind, Sem.run_pure, Result.andThen_ok]
  have := h.c
  rw [hf k hk] at this
  exact run_loadVar_row w fb fty fty cs (0, 0) d this hu hd hi
theorem rk_loadF {b o : Nat} {f : Fr} (hF : FAt W0 b o f) (hlt : b < W0.heap.size) (h1 : b ≠ bs) (h2 : b ≠ fb) :
    ∀ m k w, RKm W0 bs fb bad fc fty m k w → (Instr.loadAt 25 (.pointer (some ⟨b, o, none⟩))).run Tryz.prog w = .ok (frv f) w := by
  intro m k w h
  have e := h.block b hlt h1 h2
  obtain ⟨c0, c1, c2⟩ := hF
  have d0 := (World.cell?_of_block (w := W0) (w' := w) (a := ⟨b, o, none⟩) e).trans c0
  have d1 := (World.cell?_of_block (w := W0) (w' := w) (a := ⟨b, o + 1, none⟩) e).trans c1
  have d2 := (World.cell?_of_block (w := W0) (w' := w) (a := ⟨b, o + 2, none⟩) e).trans c2
  simp [go_sem, d0, d1, d2]
end
end
end Go.Proofs.YtodhbkinbcemnaaGreatDoor
