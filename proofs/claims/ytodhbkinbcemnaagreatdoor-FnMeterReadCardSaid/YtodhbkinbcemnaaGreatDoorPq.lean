/-
  Texts of this claim, joined: Ne; Tr; Ps. Nothing is claimed here; the other texts of this claim use it.
-/
import Derived.Test.YtodhbkinbcemnaaGreatDoorPf
import Derived.Test.YtodhbkinbcemnaaGreatDoorMv
import Derived.Test.YtodhbkinbcemnaaGreatDoorPj
import Derived.Test.YtodhbkinbcemnaaGreatDoorPb
namespace Go.Proofs.YtodhbkinbcemnaaGreatDoor
set_option linter.unusedSimpArgs false
set_option linter.unusedVariables false
section
open Go.RowKit
attribute [local go_sem ↓] Go.wp_at_zero Go.wp_at_succ
theorem MtAt.same {w w' : World} {b : Nat} {m : Mt} (h : MtAt w b m) (hc : ∀ o, w'.cell? ⟨b, o, none⟩ = w.cell? ⟨b, o, none⟩) : MtAt w' b m := by
  unfold MtAt at h ⊢
  simp only [hc]
  exact h
theorem MtAt.lt {w : World} {b : Nat} {m : Mt} (h : MtAt w b m) : b < w.heap.size := by
  have := World.block_lt_of_cell? w _ h.1
  exact this
theorem MtAt.below {w w' : World} {b B : Nat} {m : Mt} (h : MtAt w b m) (hb : Below B w w') (hlt : b < B) : MtAt w' b m := h.same fun o => hb.cell (p := ⟨b, o, none⟩) hlt
theorem MtAt.alloc {w : World} {b : Nat} {m : Mt} (h : MtAt w b m) (o : Obj) : MtAt (w.alloc o) b m := h.below ((Below.refl _ _).alloc (Nat.le_refl _) o) h.lt
theorem MtAt.new (w : World) (m : Mt) (t : TypeId) : MtAt (w.alloc (.cells #[.int .i64 m.a.re, .int .i64 m.a.im, .int .i64 m.a.den, .int .i64 m.b.re, .int .i64 m.b.im, .int .i64 m.b.den, .int .i64 m.c.re, .int .i64 m.c.im, .int .i64 m.c.den, .int .i64 m.d.re, .int .i64 m.d.im, .int .i64 m.d.den] t)) w.heap.size m :=
  ⟨World.cell?_alloc_at _ _ _ _ rfl, World.cell?_alloc_at _ _ _ _ rfl, World.cell?_alloc_at _ _ _ _ rfl, World.cell?_alloc_at _ _ _ _ rfl, World.cell?_alloc_at _ _ _ _ rfl, World.cell?_alloc_at _ _ _ _ rfl, World.cell?_alloc_at _ _ _ _ rfl, World.cell?_alloc_at _ _ _ _ rfl, World.cell?_alloc_at _ _ _ _ rfl, World.cell?_alloc_at _ _ _ _ rfl, World.cell?_alloc_at _ _ _ _ rfl, World.cell?_alloc_at _ _ _ _ rfl⟩
theorem MtAt.drew {w : World} {b : Nat} {m : Mt} (h : MtAt w b m) : MtAt w.drew b m := h
theorem MtAt.drewN {w : World} {b : Nat} {m : Mt} (h : MtAt w b m) (n : Nat) : MtAt (w.drewN n) b m := h
theorem MtAt.far {w : World} {b : Nat} {m : Mt} (h : MtAt w b m) {p : Addr} (hp : b < p.block) (u : Value) : MtAt (w.setCell p u) b m := h.below ((Below.refl p.block w).setCell (Nat.le_refl _) u) hp
def adjR (p q : Int) : Mt := (madjI (rotM p q)).getD ⟨⟨0, 0, 0⟩, ⟨0, 0, 0⟩, ⟨0, 0, 0⟩, ⟨0, 0, 0⟩⟩
/-- The plate of a direction and a phase. -/
def plateI (p q k : Int) : Option Mt := if dirOk p q && inB k 0 3 then (mtimesI (rotM p q) (diagM (phF 0) (phF k))).bind fun a => mtimesI a (adjR p q) else none
theorem srot_t (p q : Int) (w : World) (h : dirOk p q = true) : Calls Tryz.prog 102 #[.int .i64 p, .int .i64 q] w fun e w' => e = .returned (mtb (some (rotM p q))) ∧ Below w.heap.size w w' := by
  have := srot_any p q w
  rwa [show rotI p q = some (rotM p q) by simp [rotI, h]] at this
theorem srot_f (p q : Int) (w : World) (h : dirOk p q = false) : Calls Tryz.prog 102 #[.int .i64 p, .int .i64 q] w fun e w' => e = .returned (mtb none) ∧ Below w.heap.size w w' := by
  have := srot_any p q w
  rwa [show rotI p q = none by simp [rotI, h]] at this
theorem rot_t (p q : Int) (w : World) (h : dirOk p q = true) : Calls Tryz.prog 31 #[.int .i64 p, .int .i64 q] w fun e w' => e = .returned (mtb (some (rotM p q))) ∧ Below w.heap.size w w' := by
  have := rot_any p q w
  rwa [show rotI p q = some (rotM p q) by simp [rotI, h]] at this
theorem rot_f (p q : Int) (w : World) (h : dirOk p q = false) : Calls Tryz.prog 31 #[.int .i64 p, .int .i64 q] w fun e w' => e = .returned (mtb none) ∧ Below w.heap.size w w' := by
  have := rot_any p q w
  rwa [show rotI p q = none by simp [rotI, h]] at this
theorem smtimes_o (m n : Mt) (o : Option Mt) (w : World) (h : mtimesI m n = o) : Calls Tryz.prog 104 #[mtv m, mtv n] w fun e w' => e = .returned (mtb o) ∧ Below w.heap.size w w' := by
  rw [← h]; exact smtimes_any m n w
theorem smadj_r (p q : Int) (w : World) : Calls Tryz.prog 103 #[mtv (rotM p q)] w fun e w' => e = .returned (.tuple #[mtv (adjR p q), .bool (madjI (rotM p q)).isSome]) ∧ Below w.heap.size w w' := smadj_any (rotM p q) w
theorem madj_r (p q : Int) (w : World) : Calls Tryz.prog 34 #[mtv (rotM p q)] w fun e w' => e = .returned (.tuple #[mtv (adjR p q), .bool (madjI (rotM p q)).isSome]) ∧ Below w.heap.size w w' := madj_any (rotM p q) w
end
section
open Go.RowKit
/-- The table of a matrix. -/
def tabM (m : Mt) : Option (List Fr) := tabI4 (mvalid m) m.a m.b m.c m.d
/-- The table of the filter at 1, 0. -/
def hf : Fr := ⟨1, 0, 2⟩
def z1 : Fr := ⟨0, 0, 1⟩
def filtT : List Fr := [hf, hf, z1, z1, hf, hf, z1, z1, z1, z1, z1, z1, z1, z1, z1, z1]
def filtM : Mt := ⟨⟨1, 0, 1⟩, z1, z1, z1⟩
theorem filt_tab : tabM filtM = some filtT := by decide +kernel
/-- The row of a station. -/
def rowI (s : Sta) : Option (List Fr) := (plateI s.p s.q 1).bind fun m => (tabM m).bind fun t => (ttimesI filtT t).map (·.take 4)
theorem tt_real {a b : List Fr} (ha : a.length = 16) (hb : b.length = 16) (hra : a.all realOk = true) (hrb : b.all realOk = true) :
    ∀ n, n ≤ 16 → (ttI a b n).2 = false → ∀ f ∈ (ttI a b n).1, realOk f = true
  | 0, _, _, f, hf => by simp [ttI] at hf
  | n + 1, hn, h, f, hf => by
    obtain ⟨d1, d2⟩ := dot_eq (r := trow a (n / 4)) (c := tcol b (n % 4)) 4 (fun k hk => getD_real hra (by omega)) (fun k hk => getD_real hrb (by omega))
    simp only [ttI, Bool.or_eq_false_iff] at h
    simp only [ttI, List.mem_append, List.mem_singleton] at hf
    rcases hf with hf | rfl
    · exact tt_real ha hb hra hrb n (by omega) h.1 f hf
    · exact (d2 h.2 (by omega)).2
theorem ttimes_some {a b xs : List Fr} (ha : a.length = 16) (hb : b.length = 16) (h : ttimesI a b = some xs) : xs.length = 16 ∧ (∀ f ∈ xs, realOk f = true) ∧ xs = (ttI a b 16).1 ∧ (ttI a b 16).2 = false := by
  unfold ttimesI at h
  split at h
  · cases h
  · rename_i hc
    obtain rfl := Option.some.inj h
    simp only [Bool.or_eq_true, Bool.not_eq_true', not_or, Bool.not_eq_false, Bool.not_eq_true, Bool.and_eq_true] at hc
    obtain ⟨⟨h1, h2⟩, h3⟩ := hc
    exact ⟨tt_len _ _ _, tt_real ha hb h1 h2 16 (Nat.le_refl _) h3, rfl, h3⟩
theorem row_some {s : Sta} {r : List Fr} (h : rowI s = some r) : r.length = 4 ∧ ∀ f ∈ r, realOk f = true := by
  unfold rowI at h
  cases hp : plateI s.p s.q 1 with
  | none => rw [hp] at h; cases h
  | some m =>
    rw [hp, Option.bind_some] at h
    cases ht : tabM m with
    | none => rw [ht] at h; cases h
    | some t =>
      rw [ht, Option.bind_some] at h
      cases hx : ttimesI filtT t with
      | none => rw [hx] at h; cases h
      | some xs =>
        rw [hx, Option.map_some] at h
        obtain rfl := Option.some.inj h
        obtain ⟨h1, h2, -⟩ := ttimes_some rfl (tab_len ht) hx
        exact ⟨by rw [List.length_take, h1]; rfl, fun f hf => h2 f (List.mem_of_mem_take hf)⟩
end
section
open Go.RowKit
theorem rep_c {p q : Int} (h : dirOk p q = true) : Rep (dirC p q) (p * p - q * q) 0 (p * p + q * q) ∧ Rep (dirS p q) (2 * p * q) 0 (p * p + q * q) := by
  have b := dir_bd p q h
  obtain ⟨f, ef, hf⟩ := lowI_small (p * p - q * q) 0 (p * p + q * q) (by omega) (by omega) (by omega) (by omega)
  obtain ⟨g, eg, hg⟩ := lowI_small (2 * p * q) 0 (p * p + q * q) (by omega) (by omega) (by omega) (by omega)
  exact ⟨by simpa [dirC, ef] using hf, by simpa [dirS, eg] using hg⟩
/-- The two parts of a power of i. -/
def phR (k : Int) : Int := if k = 0 then 1 else if k = 2 then -1 else 0
def phJ (k : Int) : Int := if k = 1 then 1 else if k = 3 then -1 else 0
theorem rep_ph {k : Int} (h : inB k 0 3 = true) : Rep (phF k) (phR k) (phJ k) 1 ∧ (few (phR k) ∧ few (phJ k)) := by
  rw [inB_iff] at h
  rcases (show k = 0 ∨ k = 1 ∨ k = 2 ∨ k = 3 by omega) with rfl | rfl | rfl | rfl
  all_goals exact ⟨⟨by decide, by decide, by decide, by decide⟩, ⟨by decide, by decide⟩, ⟨by decide, by decide⟩⟩
theorem rep_zero : Rep ⟨0, 0, 1⟩ 0 0 1 := ⟨by decide, by decide, by decide, by decide⟩
theorem few_of {x : Int} (h1 : -20000 ≤ x) (h2 : x ≤ 20000) : few x := ⟨h1, h2⟩
theorem few_neg {x : Int} (h : few x) : few (-x) := by unfold few at *; omega
theorem few_zero : few 0 := by unfold few; omega
/-- A matrix whose parts stand for numbers over one bottom. -/
structure RepM (m : Mt) (x : Fin 4 → Int) (y : Fin 4 → Int) (d : Int) : Prop where
  a : Rep m.a (x 0) (y 0) d
  b : Rep m.b (x 1) (y 1) d
  c : Rep m.c (x 2) (y 2) d
  d : Rep m.d (x 3) (y 3) d
theorem RepM.valid {m : Mt} {x y : Fin 4 → Int} {d : Int} (h : RepM m x y d) : mvalid m = true := by simp [mvalid, h.a.ok, h.b.ok, h.c.ok, h.d.ok]
theorem repM_times {m n : Mt} {x y u v : Fin 4 → Int} {d e : Int} (hm : RepM m x y d) (hn : RepM n u v e) (fx : ∀ i, few (x i)) (fy : ∀ i, few (y i)) (fu : ∀ i, few (u i)) (fv : ∀ i, few (v i)) (fd : few d) (fe : few e) :
    ∃ r, mtimesI m n = some r ∧
      Rep r.a ((x 0 * u 0 - y 0 * v 0) + (x 1 * u 2 - y 1 * v 2)) ((x 0 * v 0 + y 0 * u 0) + (x 1 * v 2 + y 1 * u 2)) (d * e) ∧
      Rep r.b ((x 0 * u 1 - y 0 * v 1) + (x 1 * u 3 - y 1 * v 3)) ((x 0 * v 1 + y 0 * u 1) + (x 1 * v 3 + y 1 * u 3)) (d * e) ∧
      Rep r.c ((x 2 * u 0 - y 2 * v 0) + (x 3 * u 2 - y 3 * v 2)) ((x 2 * v 0 + y 2 * u 0) + (x 3 * v 2 + y 3 * u 2)) (d * e) ∧
      Rep r.d ((x 2 * u 1 - y 2 * v 1) + (x 3 * u 3 - y 3 * v 3)) ((x 2 * v 1 + y 2 * u 1) + (x 3 * v 3 + y 3 * u 3)) (d * e) := by
  obtain ⟨a, ea, ha⟩ := rep_inner hm.a hn.a hm.b hn.c (fx 0) (fy 0) (fu 0) (fv 0) (fx 1) (fy 1) (fu 2) (fv 2) fd fe
  obtain ⟨b, eb, hb⟩ := rep_inner hm.a hn.b hm.b hn.d (fx 0) (fy 0) (fu 1) (fv 1) (fx 1) (fy 1) (fu 3) (fv 3) fd fe
  obtain ⟨c, ec, hc⟩ := rep_inner hm.c hn.a hm.d hn.c (fx 2) (fy 2) (fu 0) (fv 0) (fx 3) (fy 3) (fu 2) (fv 2) fd fe
  obtain ⟨z, ez, hz⟩ := rep_inner hm.c hn.b hm.d hn.d (fx 2) (fy 2) (fu 1) (fv 1) (fx 3) (fy 3) (fu 3) (fv 3) fd fe
  exact ⟨⟨a, b, c, z⟩, by simp [mtimesI, hm.valid, hn.valid, m4, ea, eb, ec, ez], ha, hb, hc, hz⟩
/-- Four numbers in a row. -/
def f4 (a b c d : Int) : Fin 4 → Int := fun i => if i = 0 then a else if i = 1 then b else if i = 2 then c else d
theorem f4_few {a b c d : Int} (ha : few a) (hb : few b) (hc : few c) (hd : few d) : ∀ i, few (f4 a b c d i) := by
  intro i
  unfold f4
  split
  · exact ha
  · split
    · exact hb
    · split
      · exact hc
      · exact hd
theorem repM_rot {p q : Int} (h : dirOk p q = true) : RepM (rotM p q) (f4 (p * p - q * q) (-(2 * p * q)) (2 * p * q) (p * p - q * q)) (f4 0 (-0) 0 0) (p * p + q * q) :=
  ⟨(rep_c h).1, rep_neg (rep_c h).2, (rep_c h).2, (rep_c h).1⟩
theorem adj_eq {p q : Int} (h : dirOk p q = true) : adjR p q = ⟨⟨(dirC p q).re, -(dirC p q).im, (dirC p q).den⟩, ⟨(dirS p q).re, -(dirS p q).im, (dirS p q).den⟩, ⟨-(dirS p q).re, - -(dirS p q).im, (dirS p q).den⟩, ⟨(dirC p q).re, -(dirC p q).im, (dirC p q).den⟩⟩ := by
  have h1 := (rep_mirror (rep_c h).1).1
  have h2 := (rep_mirror (rep_c h).2).1
  have h3 := (rep_mirror (rep_neg (rep_c h).2)).1
  simp [adjR, madjI, rotM, m4, h1, h2, h3]
theorem repM_adj {p q : Int} (h : dirOk p q = true) : RepM (adjR p q) (f4 (p * p - q * q) (2 * p * q) (-(2 * p * q)) (p * p - q * q)) (f4 (-0) (-0) (- -0) (-0)) (p * p + q * q) := by
  rw [adj_eq h]
  exact ⟨(rep_mirror (rep_c h).1).2, (rep_mirror (rep_c h).2).2, (rep_mirror (rep_neg (rep_c h).2)).2, (rep_mirror (rep_c h).1).2⟩
theorem repM_diag {k : Int} (h : inB k 0 3 = true) : RepM (diagM (phF 0) (phF k)) (f4 (phR 0) 0 0 (phR k)) (f4 (phJ 0) 0 0 (phJ k)) 1 :=
  ⟨(rep_ph (k := 0) (by decide)).1, rep_zero, rep_zero, (rep_ph h).1⟩
theorem ph0 : phR 0 = 1 ∧ phJ 0 = 0 := ⟨by decide, by decide⟩
theorem repM_rd {p q k : Int} (h : dirOk p q = true) (hk : inB k 0 3 = true) : ∃ a, mtimesI (rotM p q) (diagM (phF 0) (phF k)) = some a ∧
    RepM a (f4 (p * p - q * q) (-(2 * p * q) * phR k) (2 * p * q) ((p * p - q * q) * phR k)) (f4 0 (-(2 * p * q) * phJ k) 0 ((p * p - q * q) * phJ k)) (p * p + q * q) := by
  have b := dir_bd p q h
  have fc := few_of b.2.1.1 b.2.1.2
  have fs := few_of b.2.2.1.1 b.2.2.1.2
  have fn := few_of (show -20000 ≤ p * p + q * q by omega) b.1.2
  have fp := (rep_ph hk).2
  have f0 := few_zero
  have f1 : few (phR 0) := by rw [ph0.1]; unfold few; omega
  have f2 : few (phJ 0) := by rw [ph0.2]; exact f0
  obtain ⟨r, er, ha, hb, hc, hd⟩ := repM_times (repM_rot h) (repM_diag hk) (f4_few fc (few_neg fs) fs fc) (f4_few f0 (few_neg f0) f0 f0) (f4_few f1 f0 f0 fp.1) (f4_few f2 f0 f0 fp.2) fn (by unfold few; omega)
  refine ⟨r, er, ?_, ?_, ?_, ?_⟩
  · simpa [f4, ph0.1, ph0.2] using ha
  · simpa [f4, ph0.1, ph0.2] using hb
  · simpa [f4, ph0.1, ph0.2] using hc
  · simpa [f4, ph0.1, ph0.2] using hd
theorem few_ph {x k : Int} (hk : inB k 0 3 = true) (h : few x) : few (x * phR k) ∧ few (x * phJ k) := by
  rw [inB_iff] at hk
  unfold few at *
  rcases (show k = 0 ∨ k = 1 ∨ k = 2 ∨ k = 3 by omega) with rfl | rfl | rfl | rfl <;> simp [phR, phJ] <;> omega
theorem plate_some {p q k : Int} (h : dirOk p q = true) (hk : inB k 0 3 = true) : ∃ a b, mtimesI (rotM p q) (diagM (phF 0) (phF k)) = some a ∧ mtimesI a (adjR p q) = some b := by
  have b := dir_bd p q h
  have fc := few_of b.2.1.1 b.2.1.2
  have fs := few_of b.2.2.1.1 b.2.2.1.2
  have fn := few_of (show -20000 ≤ p * p + q * q by omega) b.1.2
  have f0 := few_zero
  obtain ⟨a, ea, ha⟩ := repM_rd h hk
  obtain ⟨r, er, _⟩ := repM_times ha (repM_adj h) (f4_few fc (few_ph hk (few_neg fs)).1 fs (few_ph hk fc).1) (f4_few f0 (few_ph hk (few_neg fs)).2 f0 (few_ph hk fc).2) (f4_few fc fs (few_neg fs) fc) (f4_few (few_neg f0) (few_neg f0) (few_neg (few_neg f0)) (few_neg f0)) fn fn
  exact ⟨a, r, ea, er⟩
end
end Go.Proofs.YtodhbkinbcemnaaGreatDoor
