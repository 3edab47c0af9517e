/-
  Texts of this claim, joined: Kg; Me; Mn; Kh. Nothing is claimed here; the other texts of this claim use it.
-/
import Derived.Test.YtodhbkinbcemnaaGreatDoorPb
import Derived.Test.YtodhbkinbcemnaaGreatDoorPc
import Derived.Test.YtodhbkinbcemnaaGreatDoorPa
import Derived.Test.YtodhbkinbcemnaaGreatDoorKd
namespace Go.Proofs.YtodhbkinbcemnaaGreatDoor
set_option linter.unusedSimpArgs false
set_option linter.unusedVariables false
section
open Go.RowKit
/-- The rows with column k replaced by the readings. -/
def colK (k : Nat) (rows : List (List Fr)) (rs : List Fr) : List (List Fr) := List.zipWith (fun r f => r.set k f) rows rs
/-- The program's way: what stands in the result so far, and whether something was none. -/
def solIK (rows : List (List Fr)) (rs : List Fr) (bot : Fr) : Nat → List Fr × Bool
  | 0 => ([], false)
  | k + 1 =>
    let s := solIK rows rs bot k
    let d := detI 3 (colK k rows rs)
    let o := overI d.1 bot
    (s.1 ++ [o.getD zK], (s.2 || d.2) || o.isNone)
/-- The reference's way. -/
def solSK (rows : List (List Fr)) (rs : List Fr) (bot : Fr) : Nat → Option (List Fr)
  | 0 => some []
  | k + 1 => (solSK rows rs bot k).bind fun out =>
    let d := detS 3 (colK k rows rs)
    if d.2 then none else (overI d.1 bot).map fun o => out ++ [o]
def solI (rows : List (List Fr)) (rs : List Fr) : Option (List Fr) :=
  if rs.all realOk && (decide (rows.length = 4) && decide (rs.length = 4)) then
    if (detI 3 rows).2 || (detI 3 rows).1 == ⟨0, 0, 1⟩ then none
    else if (solIK rows rs (detI 3 rows).1 4).2 then none else some (solIK rows rs (detI 3 rows).1 4).1
  else none
def solS (rows : List (List Fr)) (rs : List Fr) : Option (List Fr) :=
  if decide (rs.length = 4) && rs.all realOk then
    if (detS 3 rows).2 || (detS 3 rows).1.re == 0 then none
    else solSK rows rs (detS 3 rows).1 4
  else none
theorem col_sq {k : Nat} {rows : List (List Fr)} {rs : List Fr} (h : Sq 3 rows) (hl : rs.length = 4) (hr : rs.all realOk = true) : Sq 3 (colK k rows rs) := by
  refine ⟨by rw [colK, List.length_zipWith, h.1, hl]; rfl, fun r hr0 => ?_⟩
  obtain ⟨i, hi, e⟩ := List.getElem_of_mem hr0
  rw [colK, List.length_zipWith] at hi
  have e2 : r = (rows[i]'(by omega)).set k (rs[i]'(by omega)) := by
    rw [← e]
    simp [colK]
  obtain ⟨h1, h2⟩ := h.2 (rows[i]'(by omega)) (List.getElem_mem _)
  rw [e2]
  refine ⟨by rw [List.length_set, h1], fun f hf => ?_⟩
  rcases List.mem_or_eq_of_mem_set hf with h3 | rfl
  · exact h2 f h3
  · exact List.all_eq_true.1 hr _ (List.getElem_mem _)
theorem real_zero {f : Fr} (h : realOk f = true) : (f == ⟨0, 0, 1⟩) = (f.re == 0) := by
  obtain ⟨hv, hi, hd⟩ := real_parts h
  have hz := fvalid_zero f hv
  unfold isZero at hz
  rw [hi] at hz
  simp only [beq_self_eq_true, Bool.true_and, Bool.and_true] at hz
  obtain ⟨a, b, c⟩ := f
  simp only at hi hz ⊢
  subst hi
  cases ha : (a == 0)
  · have : ¬ a = 0 := by simpa using ha
    have h2 : ¬ ((⟨a, 0, c⟩ : Fr) = ⟨0, 0, 1⟩) := fun e => this (by injection e)
    simpa using h2
  · rw [ha, Bool.true_and] at hz
    have h1 : a = 0 := by simpa using ha
    have h2 : c = 1 := by simpa using hz
    subst h1 h2
    decide
theorem sol_key {rows : List (List Fr)} {rs : List Fr} (bot : Fr) (h : Sq 3 rows) (hl : rs.length = 4) (hr : rs.all realOk = true) : ∀ k, (solIK rows rs bot k).2 = (solSK rows rs bot k).isNone ∧ ((solIK rows rs bot k).2 = false → solSK rows rs bot k = some (solIK rows rs bot k).1)
  | 0 => ⟨rfl, fun _ => rfl⟩
  | k + 1 => by
    obtain ⟨h1, h2⟩ := sol_key bot h hl hr k
    obtain ⟨d1, d2⟩ := det_eq 3 _ (col_sq (k := k) h hl hr)
    simp only [solIK, solSK]
    cases hs : (solIK rows rs bot k).2
    · rw [h2 hs, ← d1]
      cases hd : (detI 3 (colK k rows rs)).2
      · rw [← (d2 hd).1]
        simp only [Bool.false_or, Option.bind_some, Bool.false_eq_true, if_false]
        cases overI (detI 3 (colK k rows rs)).1 bot <;> simp [zK]
      · simp
    · rw [hs] at h1
      have : solSK rows rs bot k = none := by simpa using h1.symm
      rw [this]
      simp
/-- Both ways give the same. -/
theorem sol_eq {rows : List (List Fr)} {rs : List Fr} (h : Sq 3 rows) : solI rows rs = solS rows rs := by
  unfold solI solS
  have h4 : rows.length = 4 := h.1
  cases hr : rs.all realOk
  · simp
  by_cases hl : rs.length = 4
  · obtain ⟨d1, d2⟩ := det_eq 3 rows h
    simp only [h4, hl, decide_true, Bool.and_self, if_true]
    rw [← d1]
    cases hd : (detI 3 rows).2
    · obtain ⟨e1, e2⟩ := d2 hd
      rw [← e1, real_zero e2]
      obtain ⟨k1, k2⟩ := sol_key (detI 3 rows).1 h hl hr 4
      cases hz : ((detI 3 rows).1.re == 0)
      · simp only [Bool.or_self, Bool.false_eq_true, if_false]
        cases hs : (solIK rows rs (detI 3 rows).1 4).2
        · rw [k2 hs]; simp
        · rw [hs] at k1
          have : solSK rows rs (detI 3 rows).1 4 = none := by simpa using k1.symm
          rw [this]; simp
      · simp
    · simp
  · simp [hl]
theorem sol_len (rows : List (List Fr)) (rs : List Fr) (bot : Fr) : ∀ k, (solIK rows rs bot k).1.length = k
  | 0 => rfl
  | k + 1 => by simp [solIK, sol_len rows rs bot k]
end
section
open Go.RowKit
theorem low_self {a : Fr} (ha : fvalid a = true) : lowI a.re a.im a.den = some a := by
  have hg := fvalid_gcd a ha
  have hb := fvalid_bd a ha
  unfold lowI
  simp only [hg, Int.tdiv_one, Int.ediv_one]
  rw [if_pos]
  simp only [Bool.and_eq_true, inB_iff, Bool.not_eq_true', decide_eq_false_iff_not]
  exact ⟨⟨hb.1, hb.2.1⟩, by omega⟩
theorem add_zero {x : Fr} (h : fvalid x = true) : addI ⟨0, 0, 1⟩ x = some x := by
  have e := low_self h
  rw [addI, h, show fvalid ⟨0, 0, 1⟩ = true by decide]
  simpa using e
end
section
open Go.RowKit
set_option maxHeartbeats 400000 in
theorem realOk_any (a : Fr) (w : World) :
    Calls Tryz.prog 59 #[frv a] w fun e w' => e = .returned (.bool (realOk a)) ∧ Below w.heap.size w w' := by
  cases ha : fvalid a
  · go_enter Tryz.func59, Tryz.ntmps59
    go_wp2_with (first | (go_at_call 78; (with_reducible refine (fvalid_f a _ (by assumption)).mono ?_); rintro e w1 ⟨rfl, hb⟩; obtain ⟨hc, hf⟩ := bf hb (w.heap.size + 1) side_; have hs := hb.size; (try simp only [World.size_alloc, World.size_setCell, World.size_drew, World.heap_drewN] at hs); have hl : w.heap.size ≤ w1.heap.size ∧ w.heap.size < w1.heap.size := ⟨by omega, by omega⟩; have hB : Below w.heap.size w w1 := bstep (by exact below_) hb side_; clear hs hb))
    go_ret
    exact ⟨by simp [realOk, ha], by exact below_⟩
  · go_enter Tryz.func59, Tryz.ntmps59
    go_wp2_with (first | (go_at_call 78; (with_reducible refine (fvalid_t a _ (by assumption)).mono ?_); rintro e w1 ⟨rfl, hb⟩; obtain ⟨hc, hf⟩ := bf hb (w.heap.size + 1) side_; have hs := hb.size; (try simp only [World.size_alloc, World.size_setCell, World.size_drew, World.heap_drewN] at hs); have hl : w.heap.size ≤ w1.heap.size ∧ w.heap.size < w1.heap.size := ⟨by omega, by omega⟩; have hB : Below w.heap.size w w1 := bstep (by exact below_) hb side_; clear hs hb))
    go_ret
    exact ⟨by simp [realOk, ha], by exact below_⟩
set_option maxHeartbeats 400000 in
theorem whole_any (n : Int) (w : World) :
    Calls Tryz.prog 44 #[.int .i64 n] w fun e w' => e = .returned (frv ⟨n, 0, 1⟩) ∧ Below w.heap.size w w' := by
  go_enter Tryz.func44, Tryz.ntmps44
  go_wp2
  exact bodyPost_ret (v := frv ⟨n, 0, 1⟩) (by simp [results, Tryz.results44, go_sem, *]) rfl ⟨rfl, by exact below_⟩
theorem all_succ {xs : List Fr} {k : Nat} {s : Fr} (h : xs[k]? = some s) : (xs.take (k + 1)).all realOk = ((xs.take k).all realOk && realOk s) := by
  rw [List.take_add_one, h]; simp
theorem all_fails {xs : List Fr} {k : Nat} {s : Fr} (h : xs[k]? = some s) (hs : realOk s = false) : xs.all realOk = false := by
  have hm : s ∈ xs := List.mem_of_getElem? h
  rw [Bool.eq_false_iff]
  intro hc
  rw [List.all_eq_true.1 hc s hm] at hs
  cases hs
set_option maxRecDepth 100000 in
set_option maxHeartbeats 2000000 in
theorem sreal_any (A : Option Addr) (len cap : Nat) (xs : List Fr) (w : World) (h : Frs A len cap xs w) :
    Calls Tryz.prog 91 #[.slice A len cap] w fun e w' => e = .returned (.bool (xs.all realOk)) ∧ Below w.heap.size w w' := by
  have hl := h.2.1
  have hm := h.2.2.1
  have hxl := Lib.hid h.1
  go_enter Tryz.func91, Tryz.ntmps91
  go_wp2
  go_loopw [3] (fun i wr => ∃ k : Nat, k ≤ len ∧ i = .int .i64 k ∧ Hid ((xs.take k).all realOk = true) ∧ Below w.heap.size w wr) (fun i _ => len - (intOf i).toNat)
  case atStart => exact ⟨0, Nat.zero_le _, rfl, rfl, Below.refl _ _⟩
  case round =>
    obtain ⟨k, hk, rfl, hall, hb⟩ := hrel
    have hz := hb.size
    by_cases hkl : k < len
    · obtain ⟨b1, o1, s, rfl, hlt1, hs1, hc1⟩ := h.at hb hkl
      obtain ⟨c0, c1, c2⟩ := hc1
      have HS1 := Lib.hid hs1
      clear hs1
      cases hv : fvalid s
      · have HF := Lib.hid (all_fails HS1.out (by simp [realOk, hv]))
        go_wp2_with (first | (go_at_call 65; (with_reducible refine (sfvalid_f s _ (by assumption)).mono ?_); rintro e w1 ⟨rfl, hb⟩; obtain ⟨hc, hf⟩ := bf hb (w.heap.size) side_; have hs := hb.size; (try simp only [World.size_alloc, World.size_setCell, World.size_drew, World.heap_drewN] at hs); have hl : w.heap.size ≤ w1.heap.size := (by omega); have hB : Below w.heap.size w w1 := bstep (by exact below_) hb side_; clear hs hb))
        go_ret
        exact ⟨by rw [HF.out]; rfl, by exact below_⟩
      cases hi : (s.im == 0)
      · have HF := Lib.hid (all_fails HS1.out (by simp [realOk, hi]))
        go_wp2_with (first | (go_at_call 65; (with_reducible refine (sfvalid_t s _ (by assumption)).mono ?_); rintro e w1 ⟨rfl, hb⟩; obtain ⟨hc, hf⟩ := bf hb (w.heap.size) side_; have hs := hb.size; (try simp only [World.size_alloc, World.size_setCell, World.size_drew, World.heap_drewN] at hs); have hl : w.heap.size ≤ w1.heap.size := (by omega); have hB : Below w.heap.size w w1 := bstep (by exact below_) hb side_; clear hs hb))
        go_ret
        exact ⟨by rw [HF.out]; rfl, by exact below_⟩
      · have HR := Lib.hid (show realOk s = true by simp [realOk, hv, hi])
        go_wp2_with (first | (go_at_call 65; (with_reducible refine (sfvalid_t s _ (by assumption)).mono ?_); rintro e w1 ⟨rfl, hb⟩; obtain ⟨hc, hf⟩ := bf hb (w.heap.size) side_; have hs := hb.size; (try simp only [World.size_alloc, World.size_setCell, World.size_drew, World.heap_drewN] at hs); have hl : w.heap.size ≤ w1.heap.size := (by omega); have hB : Below w.heap.size w w1 := bstep (by exact below_) hb side_; clear hs hb))
        go_roundw
        case rel => exact ⟨k + 1, by omega, by go_num, by rw [Hid, all_succ HS1.out, hall.out, HR.out]; rfl, by exact below_⟩
        case measure => simp [intOf]; omega
    · go_wp2
      go_ret
      have e : k = len := by omega
      subst e
      have := hall.out
      rw [List.take_of_length_le (by have := hxl.out; omega)] at this
      exact ⟨by rw [this]; rfl, by exact below_⟩
end
section
open Go.RowKit
attribute [local go_sem ↓] Go.wp_at_zero Go.wp_at_succ
/-- An array of fractions from the head of a block on, which may be written. -/
structure ArrW (W : World) (b : Nat) (xs : List Fr) : Prop where
  c : ∀ i s, xs[i]? = some s → FAt W b (i * 3) s
  f : ∀ o, W.frozen? ⟨b, o, none⟩ = false
  l : b < W.heap.size
def zs4 : List Fr := [⟨0, 0, 0⟩, ⟨0, 0, 0⟩, ⟨0, 0, 0⟩, ⟨0, 0, 0⟩]
section
variable {W w1 : World} {b : Nat} {xs : List Fr}
theorem ArrW.same (h : ArrW W b xs) (e : w1.heap[b]? = W.heap[b]?) : ArrW w1 b xs := by
  have c := fun o => World.cell?_of_block (w := W) (w' := w1) (a := ⟨b, o, none⟩) e
  refine ⟨fun i s hi => ⟨(c _).trans (h.c i s hi).1, (c _).trans (h.c i s hi).2.1, (c _).trans (h.c i s hi).2.2⟩, fun o => (World.frozen?_of_block (w := W) (w' := w1) (a := ⟨b, o, none⟩) e).trans (h.f o), ?_⟩
  rcases Nat.lt_or_ge b w1.heap.size with hlt | hge
  · exact hlt
  · have h1 := (Array.getElem?_eq_none hge)
    have h2 := h.l
    rw [h1, Array.getElem?_eq_getElem h2] at e
    cases e
theorem ArrW.below (h : ArrW W b xs) (hb : Below W.heap.size W w1) : ArrW w1 b xs := h.same (hb.block b h.l)
theorem ArrW.step {br : Nat} (h : ArrW W b xs) (hb : BelX W.heap.size br W w1) (hne : b ≠ br) : ArrW w1 b xs := h.same (hb.block b h.l hne)
theorem ArrW.alloc (h : ArrW W b xs) (o : Obj) : ArrW (W.alloc o) b xs := h.below ((Below.refl _ _).alloc (Nat.le_refl _) o)
theorem ArrW.drew (h : ArrW W b xs) : ArrW W.drew b xs := ⟨h.c, h.f, h.l⟩
theorem ArrW.drewN (h : ArrW W b xs) (n : Nat) : ArrW (W.drewN n) b xs := ⟨h.c, h.f, h.l⟩
theorem ArrW.far (h : ArrW W b xs) {p : Addr} (hp : b ≠ p.block) (u : Value) : ArrW (W.setCell p u) b xs := h.same (Below.heap_setCell W p u b hp)
theorem ArrW.put (h : ArrW W b xs) {i : Nat} (hi : i < xs.length) (s : Fr) :
    ArrW (((W.setCell ⟨b, i * 3, none⟩ (.int .i64 s.re)).setCell ⟨b, i * 3 + 1, none⟩ (.int .i64 s.im)).setCell ⟨b, i * 3 + 2, none⟩ (.int .i64 s.den)) b (xs.set i s) := by
  have h0 := h.c i _ (List.getElem?_eq_getElem hi)
  obtain ⟨k0, k1, k2⟩ := h0
  refine ⟨fun j t hj => ?_, fun o => by simp [go_sem, h.f], by simpa using h.l⟩
  by_cases hji : j = i
  · subst hji
    rw [List.getElem?_set_self hi] at hj
    obtain rfl := Option.some.inj hj
    exact ⟨by simp [go_sem, k0, k1, k2, h.f], by simp [go_sem, k0, k1, k2, h.f], by simp [go_sem, k0, k1, k2, h.f]⟩
  · rw [List.getElem?_set_ne (by omega)] at hj
    obtain ⟨t0, t1, t2⟩ := h.c j t hj
    have n0 : j * 3 ≠ i * 3 ∧ j * 3 ≠ i * 3 + 1 ∧ j * 3 ≠ i * 3 + 2 := by omega
    have n1 : j * 3 + 1 ≠ i * 3 ∧ j * 3 + 1 ≠ i * 3 + 1 ∧ j * 3 + 1 ≠ i * 3 + 2 := by omega
    have n2 : j * 3 + 2 ≠ i * 3 ∧ j * 3 + 2 ≠ i * 3 + 1 ∧ j * 3 + 2 ≠ i * 3 + 2 := by omega
    have key : ∀ o u, W.cell? ⟨b, o, none⟩ = some u → o ≠ i * 3 → o ≠ i * 3 + 1 → o ≠ i * 3 + 2 → (((W.setCell ⟨b, i * 3, none⟩ (.int .i64 s.re)).setCell ⟨b, i * 3 + 1, none⟩ (.int .i64 s.im)).setCell ⟨b, i * 3 + 2, none⟩ (.int .i64 s.den)).cell? ⟨b, o, none⟩ = some u := by
      intro o u hu e0 e1 e2
      have q : ∀ p : Nat, o ≠ p → (⟨b, p, none⟩ : Addr) ≠ ⟨b, o, none⟩ := fun p hp e => hp (by injection e with h1 h2; exact h2.symm)
      exact (World.cell?_setCell_other _ _ _ _ (q _ e2)).trans ((World.cell?_setCell_other _ _ _ _ (q _ e1)).trans ((World.cell?_setCell_other _ _ _ _ (q _ e0)).trans hu))
    exact ⟨key _ _ t0 n0.1 n0.2.1 n0.2.2, key _ _ t1 n1.1 n1.2.1 n1.2.2, key _ _ t2 n2.1 n2.2.1 n2.2.2⟩
theorem ArrW.zero (W : World) (t : TypeId) : ArrW (W.alloc (.cells #[.int .i64 0, .int .i64 0, .int .i64 0, .int .i64 0, .int .i64 0, .int .i64 0, .int .i64 0, .int .i64 0, .int .i64 0, .int .i64 0, .int .i64 0, .int .i64 0] t)) W.heap.size zs4 := by
  refine ⟨fun i s hi => ?_, fun o => frozenNew W _ t o, by simp⟩
  have hi4 := (List.getElem?_eq_some_iff.1 hi).1
  have : i = 0 ∨ i = 1 ∨ i = 2 ∨ i = 3 := by simp [zs4] at hi4; omega
  rcases this with rfl | rfl | rfl | rfl <;> (simp [zs4] at hi; subst hi; exact ⟨World.cell?_alloc_at _ _ _ _ rfl, World.cell?_alloc_at _ _ _ _ rfl, World.cell?_alloc_at _ _ _ _ rfl⟩)
theorem ArrW.four {x y z u : Fr} (h : ArrW W b [x, y, z, u]) : W.cell? ⟨b, 0, none⟩ = some (.int .i64 x.re) ∧ W.cell? ⟨b, 1, none⟩ = some (.int .i64 x.im) ∧ W.cell? ⟨b, 2, none⟩ = some (.int .i64 x.den) ∧ W.cell? ⟨b, 3, none⟩ = some (.int .i64 y.re) ∧ W.cell? ⟨b, 4, none⟩ = some (.int .i64 y.im) ∧ W.cell? ⟨b, 5, none⟩ = some (.int .i64 y.den) ∧ W.cell? ⟨b, 6, none⟩ = some (.int .i64 z.re) ∧ W.cell? ⟨b, 7, none⟩ = some (.int .i64 z.im) ∧ W.cell? ⟨b, 8, none⟩ = some (.int .i64 z.den) ∧ W.cell? ⟨b, 9, none⟩ = some (.int .i64 u.re) ∧ W.cell? ⟨b, 10, none⟩ = some (.int .i64 u.im) ∧ W.cell? ⟨b, 11, none⟩ = some (.int .i64 u.den) := by
  have h0 := h.c 0 x rfl
  have h1 := h.c 1 y rfl
  have h2 := h.c 2 z rfl
  have h3 := h.c 3 u rfl
  exact ⟨h0.1, h0.2.1, h0.2.2, h1.1, h1.2.1, h1.2.2, h2.1, h2.2.1, h2.2.2, h3.1, h3.2.1, h3.2.2⟩
theorem ArrW.z (h : ArrW W b zs4) : W.cell? ⟨b, 0, none⟩ = some (.int .i64 0) ∧ W.cell? ⟨b, 1, none⟩ = some (.int .i64 0) ∧ W.cell? ⟨b, 2, none⟩ = some (.int .i64 0) ∧ W.cell? ⟨b, 3, none⟩ = some (.int .i64 0) ∧ W.cell? ⟨b, 4, none⟩ = some (.int .i64 0) ∧ W.cell? ⟨b, 5, none⟩ = some (.int .i64 0) ∧ W.cell? ⟨b, 6, none⟩ = some (.int .i64 0) ∧ W.cell? ⟨b, 7, none⟩ = some (.int .i64 0) ∧ W.cell? ⟨b, 8, none⟩ = some (.int .i64 0) ∧ W.cell? ⟨b, 9, none⟩ = some (.int .i64 0) ∧ W.cell? ⟨b, 10, none⟩ = some (.int .i64 0) ∧ W.cell? ⟨b, 11, none⟩ = some (.int .i64 0) := h.four
end
set_option maxRecDepth 100000 in
set_option maxHeartbeats 16000000 in
theorem got_arrT (x y z u : Fr) (bs : Nat) (w : World) (hs : SumIs w bs false) :
    Calls Tryz.prog 88 #[.pointer (some ⟨bs, 0, none⟩), .agg #[.int .i64 x.re, .int .i64 x.im, .int .i64 x.den, .int .i64 y.re, .int .i64 y.im, .int .i64 y.den, .int .i64 z.re, .int .i64 z.im, .int .i64 z.den, .int .i64 u.re, .int .i64 u.im, .int .i64 u.den]] w fun e w' => e = .returned (.tuple #[.agg #[.int .i64 x.re, .int .i64 x.im, .int .i64 x.den, .int .i64 y.re, .int .i64 y.im, .int .i64 y.den, .int .i64 z.re, .int .i64 z.im, .int .i64 z.den, .int .i64 u.re, .int .i64 u.im, .int .i64 u.den], .bool true]) ∧ Below w.heap.size w w' := by
  have hlt := hs.lt
  have hcs := hs.cell
  have hne : w.heap.size ≠ bs ∧ w.heap.size + 1 ≠ bs ∧ w.heap.size + 1 + 1 ≠ bs := ⟨by omega, by omega, by omega⟩
  go_enter Tryz.func88, Tryz.ntmps88
  go_wp2
  exact bodyPost_ret (v := .tuple #[.agg #[.int .i64 x.re, .int .i64 x.im, .int .i64 x.den, .int .i64 y.re, .int .i64 y.im, .int .i64 y.den, .int .i64 z.re, .int .i64 z.im, .int .i64 z.den, .int .i64 u.re, .int .i64 u.im, .int .i64 u.den], .bool true]) (by simp [results, Tryz.results88, go_sem, *]) rfl ⟨rfl, by exact below_⟩
set_option maxRecDepth 100000 in
set_option maxHeartbeats 16000000 in
theorem got_arrF (x y z u : Fr) (bs : Nat) (w : World) (hs : SumIs w bs true) :
    Calls Tryz.prog 88 #[.pointer (some ⟨bs, 0, none⟩), .agg #[.int .i64 x.re, .int .i64 x.im, .int .i64 x.den, .int .i64 y.re, .int .i64 y.im, .int .i64 y.den, .int .i64 z.re, .int .i64 z.im, .int .i64 z.den, .int .i64 u.re, .int .i64 u.im, .int .i64 u.den]] w fun e w' => e = .returned (.tuple #[.agg #[.int .i64 0, .int .i64 0, .int .i64 0, .int .i64 0, .int .i64 0, .int .i64 0, .int .i64 0, .int .i64 0, .int .i64 0, .int .i64 0, .int .i64 0, .int .i64 0], .bool false]) ∧ Below w.heap.size w w' := by
  have hlt := hs.lt
  have hcs := hs.cell
  have hne : w.heap.size ≠ bs ∧ w.heap.size + 1 ≠ bs ∧ w.heap.size + 1 + 1 ≠ bs := ⟨by omega, by omega, by omega⟩
  go_enter Tryz.func88, Tryz.ntmps88
  go_wp2
  exact bodyPost_ret (v := .tuple #[.agg #[.int .i64 0, .int .i64 0, .int .i64 0, .int .i64 0, .int .i64 0, .int .i64 0, .int .i64 0, .int .i64 0, .int .i64 0, .int .i64 0, .int .i64 0, .int .i64 0], .bool false]) (by simp [results, Tryz.results88, go_sem, *]) rfl ⟨rfl, by exact below_⟩
end
end Go.Proofs.YtodhbkinbcemnaaGreatDoor
