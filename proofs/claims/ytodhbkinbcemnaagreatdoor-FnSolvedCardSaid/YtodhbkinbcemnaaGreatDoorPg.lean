/-
  Texts of this claim, joined: Fr; Fl; Fb. Nothing is claimed here; the other texts of this claim use it.
-/
import Derived.Test.YtodhbkinbcemnaaGreatDoorRows
import Derived.ProofKit
import Derived.OpenShut
import Derived.Deep.DeepHandedRow
import Derived.Lib.LaidTab
import Derived.Below
import Derived.WalkSmall
import Derived.Carry
import Derived.Test.YtodhbkinbcemnaaGreatDoorPa
namespace Go.Proofs.YtodhbkinbcemnaaGreatDoor
set_option linter.unusedSimpArgs false
set_option linter.unusedVariables false
section
open Go.ChangeShapes Go.WideShapes Go.ChangeAt Go.RowKit Go.WideElems

theorem own : ownKnob Tryz.prog.godebug = none := by kernel_rfl
theorem laidOut : laidOutB Tryz.prog = true := by kernel_rfl

section
variable {H : Type} {enc : TypeId × Value → H} {P : Program} {W W' : World}
theorem trodAll_stays (hl : laidOutB P = true) (hb : Below W.heap.size W W') : ∀ {ts : List TypeId} {vs : List Value} {ds : List (DataW H)} {ps : List MemPlace}, (∀ t ∈ ts, P.readableRec t = true ∧ t < P.types.size) →
    DataW.TrodAll enc P W 0 (fun _ => true) true ts vs ds ps → DataW.TrodAll enc P W' 0 (fun b => decide (b < W.heap.size)) true ts vs ds ps
  | [], [], [], _, _, h => h
  | t :: ts, v :: vs, d :: ds, ps, ht, h => by
    have hlt := DataW.TrodAll.lt h
    obtain ⟨p, q, h1, h2, rfl⟩ := h
    exact ⟨p, q, Below.trod hl (ht t (by simp)).1 (ht t (by simp)).2 h1 hb (fun x hx => hlt x (by simp [hx])), trodAll_stays hl hb (fun t' h' => ht t' (by simp [h'])) h2, rfl⟩
  | [], _ :: _, _, _, _, h => h.elim
  | [], [], _ :: _, _, _, h => h.elim
  | _ :: _, [], _, _, _, h => h.elim
  | _ :: _, _ :: _, [], _, _, h => h.elim

theorem trodVars_stays (hl : laidOutB P = true) (hb : Below W.heap.size W W') : ∀ {ns : List String} {ds : List (DataW H)} {ps : List MemPlace}, (∀ n ∈ ns, ∀ g t, P.globalNamed n = some g → (P.globals[g]?).map (·.type) = some t → P.readableRec t = true ∧ t < P.types.size) →
    (∀ p ∈ ps, p.block < W.heap.size) → DataW.TrodVars enc P W (fun _ => true) ns ds ps → DataW.TrodVars enc P W' (fun b => decide (b < W.heap.size)) ns ds ps
  | [], [], _, _, _, h => h
  | n :: ns, d :: ds, ps, ht, hlt, h => by
    obtain ⟨g, t, cs, fuel, p, q, hg, hgt, hv, hd, h2, rfl⟩ := h
    obtain ⟨hr, hrow⟩ := ht n (by simp) g t hg hgt
    have hgB : g < W.heap.size := by
      have hv' := hv
      unfold World.var? at hv'
      rw [hg] at hv'
      rcases Nat.lt_or_ge g W.heap.size with hlt | hge
      · exact hlt
      · simp [Array.getElem?_eq_none hge] at hv'
    refine ⟨g, t, cs, fuel, p, q, hg, hgt, var?_below hb hg hgB hv, ?_, trodVars_stays hl hb (fun n' h' => ht n' (by simp [h'])) (fun x hx => hlt x (by simp [hx])) h2, rfl⟩
    exact DataW.trod_stays (kids_book hl hr) (book_sized hr) (fun h => by cases h) ⟨hrow, book_self t⟩ hd (fun x hx => hb.same (hlt x (by simp [hx]))) (fun x hx => by simpa using hlt x (by simp [hx]))
  | [], _ :: _, _, _, _, h => h.elim
  | _ :: _, [], _, _, _, h => h.elim
end

theorem trodVars_length {H : Type} {enc : TypeId × Value → H} {P : Program} {W : World} {sp : Nat → Bool} : ∀ {ns : List String} {ds : List (DataW H)} {ps : List MemPlace}, DataW.TrodVars enc P W sp ns ds ps → ds.length = ns.length
  | [], [], _, _ => rfl
  | _ :: _, _ :: _, _, h => by
    obtain ⟨_, _, _, _, _, _, _, _, _, _, h2, _⟩ := h
    simp [trodVars_length h2]
  | [], _ :: _, _, h => h.elim
  | _ :: _, [], _, h => h.elim

theorem post_true {H : Type} {enc : TypeId × Value → H} {f : Func} {s : ChangeSpec} {W W' : World} {args : Array Value} {ds gs : List (DataW H)} {before : List MemPlace}
    (hW : DataW.Whole enc Tryz.prog f.params.toList s.vars false W args.toList ds gs before) (hb : Below W.heap.size W W') (hres : f.resultTypes = #[4])
    (hp : ∀ t ∈ f.params.toList, Tryz.prog.readableRec t = true ∧ t < Tryz.prog.types.size)
    (hv : ∀ n ∈ s.vars, ∀ g t, Tryz.prog.globalNamed n = some g → (Tryz.prog.globals[g]?).map (·.type) = some t → Tryz.prog.readableRec t = true ∧ t < Tryz.prog.types.size)
    (h1 : (s.fn H (ds ++ gs)).results = [.lit (.bool true)]) (h2 : (s.fn H (ds ++ gs)).args = ds) (h3 : (s.fn H (ds ++ gs)).vars = gs) :
    s.post enc Tryz.prog f false true false false W args (.bool true) W' := by
  have hlt := DataW.Whole.lt hW
  have hW0 := hW
  obtain ⟨p, q, hA, hV, rfl, hfz, hnd⟩ := hW0
  refine ⟨ds, gs, p ++ q, [], p, q, hW, ?_, ?_, ?_, hb.frame _, fun h => by cases h⟩
  · rw [h1, hres]
    exact trodAll_cons_mk (shut_bool Tryz.underlying4 _) trodAll_mk0
  · rw [h2]
    exact trodAll_stays laidOut hb hp hA
  · rw [h3]
    exact trodVars_stays laidOut hb hv (fun x hx => hlt x (by simp [hx])) hV
end
section
open Go.ChangeShapes Go.WideShapes Go.ChangeAt Go.RowKit Go.WideElems

/-- The cells that a datum of whole numbers stands for. -/
def cellsD {H : Type} : Nat → DataW H → List Value
  | 0, _ => []
  | _ + 1, .lit (.int k n) => [.int k n]
  | m + 1, .agg parts => parts.flatMap (cellsD m)
  | _, _ => []

/-- Every reading at this type is of n cells, all of them whole numbers, and the datum tells them. -/
def Flat (P : Program) (t : TypeId) (n m : Nat) : Prop := ∀ {H : Type} {enc : TypeId × Value → H} {w : World} {base : Nat} {spare : Nat → Bool} {held : Bool} {fuel : Nat} {cs : List Value} {x : DataW H × List MemPlace},
  DataW.trod enc P w base spare held fuel t cs = some x → cs.length = n ∧ cs = cellsD m x.1 ∧ ∀ i, i < n → ∃ k : Int, cs[i]? = some (.int .i64 k)
section
variable {P : Program} {t : TypeId}
theorem flat_int (h : P.underlying t = some (.int .i64)) : Flat P t 1 1 := by
  intro H enc w base spare held fuel cs x hx
  obtain ⟨k, rfl, rfl, _⟩ := DataW.trod_int h hx
  exact ⟨rfl, rfl, fun i hi => ⟨k, by rw [show i = 0 by omega]; rfl⟩⟩
theorem take_drop_parts (cs : List Value) (n : Nat) : ∀ (k : Nat), cs.length = k * n → (List.range k).flatMap (fun i => (cs.drop (i * n)).take n) = cs := by
  intro k
  induction k generalizing cs with
  | zero => intro h; simp at h; simp [h]
  | succ k ih =>
    intro h
    rw [List.range_succ_eq_map, List.flatMap_cons, List.flatMap_map]
    have h1 : (cs.drop n).length = k * n := by rw [List.length_drop, h, Nat.succ_mul]; omega
    have := ih (cs.drop n) h1
    simp only [List.drop_drop] at this
    have e : (fun a => List.take n (List.drop ((a + 1) * n) cs)) = fun i => List.take n (List.drop (n + i * n) cs) := by
      funext a; rw [Nat.succ_mul, Nat.add_comm]
    simp only [Nat.zero_mul, List.drop_zero]
    show List.take n cs ++ List.flatMap (fun a => List.take n (List.drop (a.succ * n) cs)) (List.range k) = cs
    rw [show (fun a => List.take n (List.drop (Nat.succ a * n) cs)) = fun i => List.take n (List.drop (n + i * n) cs) from e, this, List.take_append_drop]
theorem flat_array {n e s m : Nat} (h : P.underlying t = some (.array n e)) (he : Flat P e s m) (hs : P.cellsOf e = s) (hc : P.cellsOf t = n * s) : Flat P t (n * s) (m + 1) := by
  intro H enc w base spare held fuel cs x hx
  obtain ⟨xs, f, _, rfl, hl, hlen, hf⟩ := DataW.trod_array h hx
  rw [hs] at hf
  rw [hc] at hl
  have part : ∀ i, i < n → ∃ y, xs[i]? = some y ∧ ((cs.drop (i * s)).take s).length = s ∧ (cs.drop (i * s)).take s = cellsD m y.1 ∧ ∀ j, j < s → ∃ k : Int, ((cs.drop (i * s)).take s)[j]? = some (.int .i64 k) := by
    intro i hi
    have h1 := hf i hi
    have h2 : xs[i]? = some xs[i] := List.getElem?_eq_getElem (by omega)
    rw [h2] at h1
    obtain ⟨a, b, c⟩ := he h1
    exact ⟨_, h2, a, b, c⟩
  refine ⟨hl, ?_, fun i hi => ?_⟩
  · show cs = (xs.map (·.1)).flatMap (cellsD m)
    rw [← take_drop_parts cs s n hl, List.flatMap_map]
    have : xs = (List.range n).map (fun i => xs[i]?.getD (.nil, [])) := by
      apply List.ext_getElem?
      intro i
      by_cases hi : i < n
      · simp [List.getElem?_range hi, List.getElem?_eq_getElem (show i < xs.length by omega)]
      · rw [List.getElem?_eq_none (by omega), List.getElem?_eq_none (by simp; omega)]
    rw [this, List.flatMap_map]
    have hcong : ∀ l : List Nat, (∀ i ∈ l, i < n) → l.flatMap (fun i => (cs.drop (i * s)).take s) = l.flatMap (fun a => cellsD m (((List.range n).map (fun i => xs[i]?.getD (.nil, [])))[a]?.getD (.nil, [])).1) := by
      intro l
      induction l with
      | nil => intro _; rfl
      | cons a l ih =>
        intro hm
        rw [List.flatMap_cons, List.flatMap_cons, ih (fun i hi => hm i (by simp [hi]))]
        obtain ⟨y, hy, _, hb, _⟩ := part a (hm a (by simp))
        rw [hb, ← this, hy]
        rfl
    have := hcong (List.range n) (fun i hi => List.mem_range.1 hi)
    rw [this]
    simp only [← ‹xs = _›]
  · have hs0 : 0 < s := by
      rcases Nat.eq_zero_or_pos s with h0 | h0
      · subst h0; omega
      · exact h0
    have hq : i / s < n := Nat.div_lt_of_lt_mul (by rw [Nat.mul_comm]; exact hi)
    obtain ⟨y, _, _, _, hk⟩ := part (i / s) hq
    obtain ⟨k, hk⟩ := hk (i % s) (Nat.mod_lt _ hs0)
    refine ⟨k, ?_⟩
    rw [List.getElem?_take, if_pos (Nat.mod_lt _ hs0), List.getElem?_drop, Nat.mul_comm, Nat.div_add_mod] at hk
    exact hk
theorem flat_struct3 {f0 f1 f2 : Field} {m : Nat} (h : P.underlying t = some (.struct #[f0, f1, f2])) (h0 : Flat P f0.type 1 m) (k0 : P.cellsOf f0.type = 1) (o0 : f0.offset = 0)
    (h1 : Flat P f1.type 1 m) (k1 : P.cellsOf f1.type = 1) (o1 : f1.offset = 1) (h2 : Flat P f2.type 1 m) (k2 : P.cellsOf f2.type = 1) (o2 : f2.offset = 2) (hc : P.cellsOf t = 3) : Flat P t 3 (m + 1) := by
  intro H enc w base spare held fuel cs x hx
  obtain ⟨xs, f, _, rfl, hl, hlen, hf⟩ := DataW.trod_struct h hx
  match xs, hlen with
  | [y0, y1, y2], _ =>
    have g0 := hf 0 f0 rfl
    have g1 := hf 1 f1 rfl
    have g2 := hf 2 f2 rfl
    rw [o0, k0] at g0
    rw [o1, k1] at g1
    rw [o2, k2] at g2
    obtain ⟨c0, c1, c2, rfl⟩ : ∃ a b c, cs = [a, b, c] := by
      match cs, hl.trans hc with
      | [a, b, c], _ => exact ⟨a, b, c, rfl⟩
    obtain ⟨_, b0, d0⟩ := h0 g0
    obtain ⟨_, b1, d1⟩ := h1 g1
    obtain ⟨_, b2, d2⟩ := h2 g2
    refine ⟨rfl, ?_, fun i hi => ?_⟩
    · show [c0, c1, c2] = [y0.1, y1.1, y2.1].flatMap (cellsD m)
      simp only [List.flatMap_cons, List.flatMap_nil, List.append_nil, ← b0, ← b1, ← b2]
      rfl
    · rcases (show i = 0 ∨ i = 1 ∨ i = 2 by omega) with rfl | rfl | rfl
      · exact d0 0 (by omega)
      · exact d1 0 (by omega)
      · exact d2 0 (by omega)
/-- A variable that the row lists: its cells. -/
theorem var_cells {w : World} {n : String} {g s m : Nat} {cs : Array Value} {H : Type} {enc : TypeId × Value → H} {base : Nat} {spare : Nat → Bool} {held : Bool} {fuel : Nat} {d : DataW H} {p : List MemPlace}
    (hF : Flat P t s m) (hg : P.globalNamed n = some g) (hv : w.var? P n = some cs) (hd : DataW.trod enc P w base spare held fuel t cs.toList = some (d, p)) : ∀ i : Nat, w.cell? ⟨g, i, none⟩ = (cellsD m d)[i]? := by
  intro i
  rw [World.var?_cell hg hv i]
  obtain ⟨_, h, _⟩ := hF hd
  rw [← h]
  simp
end
end
section
open Go.ChangeShapes Go.WideShapes Go.ChangeAt Go.RowKit Go.WideElems
theorem fl_int : Flat Tryz.prog 3 1 1 := flat_int Tryz.underlying3
theorem co_int : Tryz.prog.cellsOf 3 = 1 := by kernel_rfl
theorem co_Frac : Tryz.prog.cellsOf 25 = 3 := by kernel_rfl
theorem fl_Frac : Flat Tryz.prog 25 3 2 := flat_struct3 Tryz.underlying25 fl_int co_int rfl fl_int co_int rfl fl_int co_int rfl co_Frac
theorem co_A4 : Tryz.prog.cellsOf 26 = 12 := by kernel_rfl
theorem fl_A4 : Flat Tryz.prog 26 12 3 := flat_array Tryz.underlying26 fl_Frac co_Frac co_A4
theorem gn_zero : Tryz.prog.globalNamed "loop.example/polarisedlight/impl.zero" = some 1 := by kernel_rfl
theorem gt_zero : (Tryz.prog.globals[1]?).map (·.type) = some 25 := by kernel_rfl
theorem gr_zero : ∀ g t, Tryz.prog.globalNamed "loop.example/polarisedlight/impl.zero" = some g → (Tryz.prog.globals[g]?).map (·.type) = some t → Tryz.prog.readableRec t = true ∧ t < Tryz.prog.types.size := by
  intro g t hg ht
  obtain rfl := Option.some.inj (gn_zero.symm.trans hg)
  obtain rfl := Option.some.inj (gt_zero.symm.trans ht)
  exact ⟨by kernel_rfl, of_decide_eq_true (by kernel_rfl)⟩
theorem gv_zero {W : World} {H : Type} {enc : TypeId × Value → H} {base : Nat} {spare : Nat → Bool} {held : Bool} {g t : Nat} {cs : Array Value} {f : Nat} {p : List MemPlace}
    (hg : Tryz.prog.globalNamed "loop.example/polarisedlight/impl.zero" = some g) (ht : (Tryz.prog.globals[g]?).map (·.type) = some t) (hv : W.var? Tryz.prog "loop.example/polarisedlight/impl.zero" = some cs)
    (hd : DataW.trod enc Tryz.prog W base spare held f t cs.toList = some (.agg [.lit (.int .i64 0), .lit (.int .i64 0), .lit (.int .i64 1)], p)) : GZ W := by
  obtain rfl := Option.some.inj (gn_zero.symm.trans hg)
  obtain rfl := Option.some.inj (gt_zero.symm.trans ht)
  have h := var_cells fl_Frac gn_zero hv hd
  have c0 : W.cell? ⟨1, 0, none⟩ = some (.int .i64 0) := h 0
  have hlt := World.block_lt_of_cell? W _ c0
  simp only at hlt
  exact ⟨by omega, c0, h 1, h 2⟩
theorem gn_one : Tryz.prog.globalNamed "loop.example/polarisedlight/impl.one" = some 0 := by kernel_rfl
theorem gt_one : (Tryz.prog.globals[0]?).map (·.type) = some 25 := by kernel_rfl
theorem gr_one : ∀ g t, Tryz.prog.globalNamed "loop.example/polarisedlight/impl.one" = some g → (Tryz.prog.globals[g]?).map (·.type) = some t → Tryz.prog.readableRec t = true ∧ t < Tryz.prog.types.size := by
  intro g t hg ht
  obtain rfl := Option.some.inj (gn_one.symm.trans hg)
  obtain rfl := Option.some.inj (gt_one.symm.trans ht)
  exact ⟨by kernel_rfl, of_decide_eq_true (by kernel_rfl)⟩
theorem gv_one {W : World} {H : Type} {enc : TypeId × Value → H} {base : Nat} {spare : Nat → Bool} {held : Bool} {g t : Nat} {cs : Array Value} {f : Nat} {p : List MemPlace}
    (hg : Tryz.prog.globalNamed "loop.example/polarisedlight/impl.one" = some g) (ht : (Tryz.prog.globals[g]?).map (·.type) = some t) (hv : W.var? Tryz.prog "loop.example/polarisedlight/impl.one" = some cs)
    (hd : DataW.trod enc Tryz.prog W base spare held f t cs.toList = some (.agg [.lit (.int .i64 1), .lit (.int .i64 0), .lit (.int .i64 1)], p)) : GO W := by
  obtain rfl := Option.some.inj (gn_one.symm.trans hg)
  obtain rfl := Option.some.inj (gt_one.symm.trans ht)
  have h := var_cells fl_Frac gn_one hv hd
  have c0 : W.cell? ⟨0, 0, none⟩ = some (.int .i64 1) := h 0
  have hlt := World.block_lt_of_cell? W _ c0
  simp only at hlt
  exact ⟨by omega, c0, h 1, h 2⟩
theorem gn_turns : Tryz.prog.globalNamed "loop.example/polarisedlight/impl.turns" = some 2 := by kernel_rfl
theorem gt_turns : (Tryz.prog.globals[2]?).map (·.type) = some 26 := by kernel_rfl
theorem gr_turns : ∀ g t, Tryz.prog.globalNamed "loop.example/polarisedlight/impl.turns" = some g → (Tryz.prog.globals[g]?).map (·.type) = some t → Tryz.prog.readableRec t = true ∧ t < Tryz.prog.types.size := by
  intro g t hg ht
  obtain rfl := Option.some.inj (gn_turns.symm.trans hg)
  obtain rfl := Option.some.inj (gt_turns.symm.trans ht)
  exact ⟨by kernel_rfl, of_decide_eq_true (by kernel_rfl)⟩
set_option maxRecDepth 100000 in
theorem gv_turns {W : World} {H : Type} {enc : TypeId × Value → H} {base : Nat} {spare : Nat → Bool} {held : Bool} {g t : Nat} {cs : Array Value} {f : Nat} {p : List MemPlace}
    (hg : Tryz.prog.globalNamed "loop.example/polarisedlight/impl.turns" = some g) (ht : (Tryz.prog.globals[g]?).map (·.type) = some t) (hv : W.var? Tryz.prog "loop.example/polarisedlight/impl.turns" = some cs)
    (hd : DataW.trod enc Tryz.prog W base spare held f t cs.toList = some (.agg [.agg [.lit (.int .i64 1), .lit (.int .i64 0), .lit (.int .i64 1)], .agg [.lit (.int .i64 0), .lit (.int .i64 1), .lit (.int .i64 1)], .agg [.lit (.int .i64 (-1)), .lit (.int .i64 0), .lit (.int .i64 1)], .agg [.lit (.int .i64 0), .lit (.int .i64 (-1)), .lit (.int .i64 1)]], p)) : GT W := by
  obtain rfl := Option.some.inj (gn_turns.symm.trans hg)
  obtain rfl := Option.some.inj (gt_turns.symm.trans ht)
  have h := var_cells fl_A4 gn_turns hv hd
  have c0 : W.cell? ⟨2, 0, none⟩ = some (.int .i64 1) := h 0
  have hlt := World.block_lt_of_cell? W _ c0
  simp only at hlt
  exact ⟨by omega, ⟨c0, h 1, h 2⟩, ⟨h 3, h 4, h 5⟩, ⟨h 6, h 7, h 8⟩, ⟨h 9, h 10, h 11⟩⟩
end
end Go.Proofs.YtodhbkinbcemnaaGreatDoor
