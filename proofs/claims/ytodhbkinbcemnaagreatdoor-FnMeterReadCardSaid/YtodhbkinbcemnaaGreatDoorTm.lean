/-
  The walk of MeterRow (program).
-/
import Derived.Test.YtodhbkinbcemnaaGreatDoorPo
import Derived.Test.YtodhbkinbcemnaaGreatDoorTl
import Derived.Test.YtodhbkinbcemnaaGreatDoorPr
import Derived.Test.YtodhbkinbcemnaaGreatDoorNf
import Derived.Laws.Cover3
namespace Go.Proofs.YtodhbkinbcemnaaGreatDoor
set_option linter.unusedSimpArgs false
set_option linter.unusedVariables false
open Go.RowKit
attribute [local go_sem ↓] Go.wp_at_zero Go.wp_at_succ
/-- Blocks that a call has made, and what they hold. -/
structure MH (w : World) (bl : List (Nat × Array Value × TypeId)) (W : World) : Prop where
  B : Below w.heap.size w W
  g : ∀ q ∈ bl, w.heap.size ≤ q.1 ∧ Blk W q.1 q.2.1 q.2.2
section
variable {w W W' : World} {bl : List (Nat × Array Value × TypeId)}
theorem MH.call (h : MH w bl W) (hb : Below W.heap.size W W') : MH w bl W' := ⟨bstep h.B hb h.B.size, fun q hq => ⟨(h.g q hq).1, (hb.block q.1 (Array.getElem?_eq_some_iff.1 (h.g q hq).2).1).trans (h.g q hq).2⟩⟩
theorem MH.put {z cs : Array Value} {ty : TypeId} (h : MH w bl W) : MH w (bl ++ [(W.heap.size, cs, ty)]) ((W.alloc (.cells z ty)).setRow W.heap.size cs) := by
  have hn := heap_alloc_last W (.cells z ty)
  refine ⟨below_setRow (h.B.alloc h.B.size _) h.B.size _, fun q hq => ?_⟩
  rcases List.mem_append.1 hq with h1 | h1
  · obtain ⟨g1, g2⟩ := h.g q h1
    have hl := (Array.getElem?_eq_some_iff.1 g2).1
    exact ⟨g1, (setRow_far _ _ _ _ (by omega)).trans ((Below.heap_alloc _ _ _ hl).trans g2)⟩
  · simp at h1; subst h1
    exact ⟨h.B.size, setRow_heap _ _ z _ _ (0, 0) hn⟩
theorem MH.alloc {cs : Array Value} {ty : TypeId} (h : MH w bl W) : MH w (bl ++ [(W.heap.size, cs, ty)]) (W.alloc (.cells cs ty)) := by
  refine ⟨h.B.alloc h.B.size _, fun q hq => ?_⟩
  rcases List.mem_append.1 hq with h1 | h1
  · obtain ⟨g1, g2⟩ := h.g q h1
    exact ⟨g1, (Below.heap_alloc _ _ _ (Array.getElem?_eq_some_iff.1 g2).1).trans g2⟩
  · simp at h1; subst h1
    exact ⟨h.B.size, heap_alloc_last W _⟩
theorem MH.start : MH w [] w := ⟨Below.refl _ _, fun _ h => by cases h⟩
theorem MH.at (h : MH w bl W) {b : Nat} {cs : Array Value} {ty : TypeId} (hq : (b, cs, ty) ∈ bl) : W.heap[b]? = some (.cells cs ty (0, 0)) := (h.g _ hq).2
end
theorem szMat (m : Mt) : ((Tryz.prog).info? 36).map (·.size) = some (mtc m).size := by kernel_rfl
theorem mtc_one (m : Mt) : (mtc m).all (·.oneCell') = true := by simp [mtc, Value.oneCell']
theorem szRow (xs : List Fr) (h : xs.length = 4) : ((Tryz.prog).info? 26).map (·.size) = some (tbc xs).size := by rw [tbc_size, h]; kernel_rfl
theorem tableOf_c (m : Mt) (w : World) (hG : GZ w) : Calls Tryz.prog 12 #[.agg (mtc m)] w fun e w' => e = .returned (tbb (tabM m)) ∧ Below w.heap.size w w' := tableOf_any m w hG
theorem tableOf_f (w : World) (hG : GZ w) : Calls Tryz.prog 12 #[.agg (mtc filtM)] w fun e w' => e = .returned (.tuple #[.agg (tbc filtT), .bool true]) ∧ Below w.heap.size w w' := by
  have := tableOf_any filtM w hG
  rw [filt_tab] at this
  exact this
def zm : Mt := ⟨⟨0, 0, 0⟩, ⟨0, 0, 0⟩, ⟨0, 0, 0⟩, ⟨0, 0, 0⟩⟩
def zs4r : List Fr := [zK, zK, zK, zK]
/-- What MeterRow hands back. -/
def rwb (o : Option (List Fr)) : Value := .tuple #[tbv (o.getD zs4r), .bool o.isSome]
theorem zero_tab : tabM zm = none := by decide +kernel
theorem zero_tt : ttimesI filtT zs16 = none := by decide +kernel
theorem ttI_len {a b xs : List Fr} (h : ttimesI a b = some xs) : xs.length = 16 := by
  unfold ttimesI at h
  split at h
  · cases h
  · obtain rfl := Option.some.inj h; exact tt_len _ _ _
theorem tabM_len {m : Mt} {t : List Fr} (h : tabM m = some t) : t.length = 16 := tab_len h
set_option maxRecDepth 100000 in
set_option maxHeartbeats 4000000 in
theorem meterRow_any (s : Sta) (w : World) (hO : GO w) (hZ : GZ w) (hT : GT w) :
    Calls Tryz.prog 25 #[stv s] w fun e w' => e = .returned (rwb (rowI s)) ∧ Below w.heap.size w w' := by
  obtain ⟨o1, ho1⟩ : ∃ o, o = plateI s.p s.q 1 := ⟨_, rfl⟩
  obtain ⟨M, hM⟩ : ∃ M, M = o1.getD zm := ⟨_, rfl⟩
  obtain ⟨o3, ho3⟩ : ∃ o, o = tabM M := ⟨_, rfl⟩
  obtain ⟨T, hT3⟩ : ∃ T, T = o3.getD zs16 := ⟨_, rfl⟩
  have hTl : T.length = 16 := by
    rw [hT3, ho3]
    cases h : tabM M with
    | none => rfl
    | some t => exact tabM_len h
  obtain ⟨o5, ho5⟩ : ∃ o, o = ttimesI filtT T := ⟨_, rfl⟩
  obtain ⟨X, hX⟩ : ∃ X, X = o5.getD zs16 := ⟨_, rfl⟩
  have hXl : X.length = 16 := by
    rw [hX, ho5]
    cases h : ttimesI filtT T with
    | none => rfl
    | some t => exact ttI_len h
  have cP : ∀ W, GO W → GZ W → GT W → Calls Tryz.prog 10 #[.int .i64 s.p, .int .i64 s.q, .int .i64 1] W fun e w' => e = .returned (.tuple #[.agg (mtc M), .bool o1.isSome]) ∧ Below W.heap.size W w' := fun W h1 h2 h3 => by
    have := plate_any s.p s.q 1 W h1 h2 h3
    rw [← ho1] at this
    rw [hM]
    exact this
  have cT : ∀ W, GZ W → Calls Tryz.prog 12 #[.agg (mtc M)] W fun e w' => e = .returned (.tuple #[.agg (tbc T), .bool o3.isSome]) ∧ Below W.heap.size W w' := fun W h => by
    have := tableOf_c M W h
    rw [← ho3] at this
    rw [hT3]
    exact this
  have cX : ∀ W, Calls Tryz.prog 64 #[.agg (tbc filtT), .agg (tbc T)] W fun e w' => e = .returned (.tuple #[.agg (tbc X), .bool o5.isSome]) ∧ Below W.heap.size W w' := fun W => by
    have := ttimes_any filtT T rfl hTl W
    rw [← ho5] at this
    rw [hX]
    exact this
  have hres : rowI s = if o1.isSome && o3.isSome && o5.isSome then some (X.take 4) else none := by
    unfold rowI
    rw [← ho1]
    cases h1 : o1 with
    | none => simp
    | some m =>
      have e1 : M = m := by rw [hM, h1]; rfl
      rw [Option.bind_some, ← e1, ← ho3]
      cases h3 : o3 with
      | none => simp
      | some t =>
        have e3 : T = t := by rw [hT3, h3]; rfl
        rw [Option.bind_some, ← e3, ← ho5]
        cases h5 : o5 with
        | none => simp
        | some x =>
          have e5 : X = x := by rw [hX, h5]; rfl
          simp [e5]
  have HP := Lib.hid cP
  have HT := Lib.hid cT
  have HX := Lib.hid cX
  have HR := Lib.hid hres
  have h01 : o1 = none → tabM M = none := fun h => by rw [hM, h]; exact zero_tab
  have h03 : o3 = none → ttimesI filtT T = none := fun h => by rw [hT3, h]; exact zero_tt
  clear cP cT cX hres ho1 hM hT3 hX h01 h03 ho3 ho5
  go_enter Tryz.func25, Tryz.ntmps25
  have h0 : MH w ([] ++ [(w.heap.size, #[.int .i64 s.p, .int .i64 s.q], 40)] ++ [(w.heap.size + 1, tbc zs4r, 26)]) ((w.alloc (.cells #[.int .i64 s.p, .int .i64 s.q] 40)).alloc (.cells (tbc zs4r) 26)) := by
    have := ((MH.start (w := w)).alloc (cs := #[.int .i64 s.p, .int .i64 s.q]) (ty := 40)).alloc (cs := tbc zs4r) (ty := 26)
    rwa [World.size_alloc] at this
  have H0 := Lib.hid h0
  clear h0
  go_upto_region 6 with (first
    | (go_at_call 10; (with_reducible refine (HP.out _ (hO.below (by exact below_)) (hZ.below (by exact below_)) (hT.below (by exact below_))).mono ?_); rintro e w1 ⟨rfl, hb⟩; have H1 := Lib.hid (H0.out.call hb); clear hb)
    | (refine wpList_store_row rfl 36 _ _ rfl w1.heap.size (mtc M) rfl rfl 36 (#[.int .i64 0, .int .i64 0, .int .i64 0, .int .i64 0, .int .i64 0, .int .i64 0, .int .i64 0, .int .i64 0, .int .i64 0, .int .i64 0, .int .i64 0, .int .i64 0]) (heap_alloc_last w1 _) (szMat M) rfl (mtc_one M) ?_; have H2 := Lib.hid (MH.put (z := #[.int .i64 0, .int .i64 0, .int .i64 0, .int .i64 0, .int .i64 0, .int .i64 0, .int .i64 0, .int .i64 0, .int .i64 0, .int .i64 0, .int .i64 0, .int .i64 0]) (cs := mtc M) (ty := 36) H1.out))
    | (go_at_call 11; (with_reducible refine (filter_10 _).mono ?_); rintro e w2 ⟨rfl, hb⟩; have H3 := Lib.hid (H2.out.call hb); clear hb)
    | (refine wpList_store_row rfl 36 _ _ rfl w2.heap.size (mtc filtM) rfl rfl 36 (#[.int .i64 0, .int .i64 0, .int .i64 0, .int .i64 0, .int .i64 0, .int .i64 0, .int .i64 0, .int .i64 0, .int .i64 0, .int .i64 0, .int .i64 0, .int .i64 0]) (heap_alloc_last w2 _) (szMat filtM) rfl (mtc_one filtM) ?_; have H4 := Lib.hid (MH.put (z := #[.int .i64 0, .int .i64 0, .int .i64 0, .int .i64 0, .int .i64 0, .int .i64 0, .int .i64 0, .int .i64 0, .int .i64 0, .int .i64 0, .int .i64 0, .int .i64 0]) (cs := mtc filtM) (ty := 36) H3.out))
    | (refine wpList_load_row rfl 36 _ rfl w2.heap.size rfl 36 (mtc filtM) (0, 0) _ (H4.out.at (by simp)) Tryz.underlying36 rfl (szMat filtM) ?_)
    | (go_at_call 12; (with_reducible refine (tableOf_f _ (hZ.below H4.out.B)).mono ?_); rintro e w3 ⟨rfl, hb⟩; have H5 := Lib.hid (H4.out.call hb); clear hb)
    | (refine wpList_store_row rfl 44 _ _ rfl w3.heap.size (tbc filtT) rfl rfl 44 (#[.int .i64 0, .int .i64 0, .int .i64 0, .int .i64 0, .int .i64 0, .int .i64 0, .int .i64 0, .int .i64 0, .int .i64 0, .int .i64 0, .int .i64 0, .int .i64 0, .int .i64 0, .int .i64 0, .int .i64 0, .int .i64 0, .int .i64 0, .int .i64 0, .int .i64 0, .int .i64 0, .int .i64 0, .int .i64 0, .int .i64 0, .int .i64 0, .int .i64 0, .int .i64 0, .int .i64 0, .int .i64 0, .int .i64 0, .int .i64 0, .int .i64 0, .int .i64 0, .int .i64 0, .int .i64 0, .int .i64 0, .int .i64 0, .int .i64 0, .int .i64 0, .int .i64 0, .int .i64 0, .int .i64 0, .int .i64 0, .int .i64 0, .int .i64 0, .int .i64 0, .int .i64 0, .int .i64 0, .int .i64 0]) (heap_alloc_last w3 _) (szTab filtT rfl) rfl (tbc_one _) ?_; have H6 := Lib.hid (MH.put (z := #[.int .i64 0, .int .i64 0, .int .i64 0, .int .i64 0, .int .i64 0, .int .i64 0, .int .i64 0, .int .i64 0, .int .i64 0, .int .i64 0, .int .i64 0, .int .i64 0, .int .i64 0, .int .i64 0, .int .i64 0, .int .i64 0, .int .i64 0, .int .i64 0, .int .i64 0, .int .i64 0, .int .i64 0, .int .i64 0, .int .i64 0, .int .i64 0, .int .i64 0, .int .i64 0, .int .i64 0, .int .i64 0, .int .i64 0, .int .i64 0, .int .i64 0, .int .i64 0, .int .i64 0, .int .i64 0, .int .i64 0, .int .i64 0, .int .i64 0, .int .i64 0, .int .i64 0, .int .i64 0, .int .i64 0, .int .i64 0, .int .i64 0, .int .i64 0, .int .i64 0, .int .i64 0, .int .i64 0, .int .i64 0]) (cs := tbc filtT) (ty := 44) H5.out))
    | (refine wpList_load_row rfl 36 _ rfl w1.heap.size rfl 36 (mtc M) (0, 0) _ (H6.out.at (by simp)) Tryz.underlying36 rfl (szMat M) ?_)
    | (go_at_call 12; (with_reducible refine (HT.out _ (hZ.below H6.out.B)).mono ?_); rintro e w4 ⟨rfl, hb⟩; have H7 := Lib.hid (H6.out.call hb); clear hb)
    | (refine wpList_store_row rfl 44 _ _ rfl w4.heap.size (tbc T) rfl rfl 44 (#[.int .i64 0, .int .i64 0, .int .i64 0, .int .i64 0, .int .i64 0, .int .i64 0, .int .i64 0, .int .i64 0, .int .i64 0, .int .i64 0, .int .i64 0, .int .i64 0, .int .i64 0, .int .i64 0, .int .i64 0, .int .i64 0, .int .i64 0, .int .i64 0, .int .i64 0, .int .i64 0, .int .i64 0, .int .i64 0, .int .i64 0, .int .i64 0, .int .i64 0, .int .i64 0, .int .i64 0, .int .i64 0, .int .i64 0, .int .i64 0, .int .i64 0, .int .i64 0, .int .i64 0, .int .i64 0, .int .i64 0, .int .i64 0, .int .i64 0, .int .i64 0, .int .i64 0, .int .i64 0, .int .i64 0, .int .i64 0, .int .i64 0, .int .i64 0, .int .i64 0, .int .i64 0, .int .i64 0, .int .i64 0]) (heap_alloc_last w4 _) (szTab T hTl) (by rw [tbc_size, hTl]; rfl) (tbc_one _) ?_; have H8 := Lib.hid (MH.put (z := #[.int .i64 0, .int .i64 0, .int .i64 0, .int .i64 0, .int .i64 0, .int .i64 0, .int .i64 0, .int .i64 0, .int .i64 0, .int .i64 0, .int .i64 0, .int .i64 0, .int .i64 0, .int .i64 0, .int .i64 0, .int .i64 0, .int .i64 0, .int .i64 0, .int .i64 0, .int .i64 0, .int .i64 0, .int .i64 0, .int .i64 0, .int .i64 0, .int .i64 0, .int .i64 0, .int .i64 0, .int .i64 0, .int .i64 0, .int .i64 0, .int .i64 0, .int .i64 0, .int .i64 0, .int .i64 0, .int .i64 0, .int .i64 0, .int .i64 0, .int .i64 0, .int .i64 0, .int .i64 0, .int .i64 0, .int .i64 0, .int .i64 0, .int .i64 0, .int .i64 0, .int .i64 0, .int .i64 0, .int .i64 0]) (cs := tbc T) (ty := 44) H7.out))
    | (refine wpList_load_row rfl 44 _ rfl w3.heap.size rfl 44 (tbc filtT) (0, 0) _ (H8.out.at (by simp)) Tryz.underlying44 rfl (szTab filtT rfl) ?_)
    | (refine wpList_load_row rfl 44 _ rfl w4.heap.size rfl 44 (tbc T) (0, 0) _ (H8.out.at (by simp)) Tryz.underlying44 rfl (szTab T hTl) ?_)
    | (go_at_call 64; (with_reducible refine (HX.out _).mono ?_); rintro e w5 ⟨rfl, hb⟩; have H9 := Lib.hid (H8.out.call hb); clear hb)
    | (refine wpList_store_row rfl 44 _ _ rfl w5.heap.size (tbc X) rfl rfl 44 (#[.int .i64 0, .int .i64 0, .int .i64 0, .int .i64 0, .int .i64 0, .int .i64 0, .int .i64 0, .int .i64 0, .int .i64 0, .int .i64 0, .int .i64 0, .int .i64 0, .int .i64 0, .int .i64 0, .int .i64 0, .int .i64 0, .int .i64 0, .int .i64 0, .int .i64 0, .int .i64 0, .int .i64 0, .int .i64 0, .int .i64 0, .int .i64 0, .int .i64 0, .int .i64 0, .int .i64 0, .int .i64 0, .int .i64 0, .int .i64 0, .int .i64 0, .int .i64 0, .int .i64 0, .int .i64 0, .int .i64 0, .int .i64 0, .int .i64 0, .int .i64 0, .int .i64 0, .int .i64 0, .int .i64 0, .int .i64 0, .int .i64 0, .int .i64 0, .int .i64 0, .int .i64 0, .int .i64 0, .int .i64 0]) (heap_alloc_last w5 _) (szTab X hXl) (by rw [tbc_size, hXl]; rfl) (tbc_one _) ?_; have HA := Lib.hid (MH.put (z := #[.int .i64 0, .int .i64 0, .int .i64 0, .int .i64 0, .int .i64 0, .int .i64 0, .int .i64 0, .int .i64 0, .int .i64 0, .int .i64 0, .int .i64 0, .int .i64 0, .int .i64 0, .int .i64 0, .int .i64 0, .int .i64 0, .int .i64 0, .int .i64 0, .int .i64 0, .int .i64 0, .int .i64 0, .int .i64 0, .int .i64 0, .int .i64 0, .int .i64 0, .int .i64 0, .int .i64 0, .int .i64 0, .int .i64 0, .int .i64 0, .int .i64 0, .int .i64 0, .int .i64 0, .int .i64 0, .int .i64 0, .int .i64 0, .int .i64 0, .int .i64 0, .int .i64 0, .int .i64 0, .int .i64 0, .int .i64 0, .int .i64 0, .int .i64 0, .int .i64 0, .int .i64 0, .int .i64 0, .int .i64 0]) (cs := tbc X) (ty := 44) H9.out)))
  obtain ⟨W, hW, hMH⟩ : ∃ W, W = ((w5.alloc (.cells #[.int .i64 0, .int .i64 0, .int .i64 0, .int .i64 0, .int .i64 0, .int .i64 0, .int .i64 0, .int .i64 0, .int .i64 0, .int .i64 0, .int .i64 0, .int .i64 0, .int .i64 0, .int .i64 0, .int .i64 0, .int .i64 0, .int .i64 0, .int .i64 0, .int .i64 0, .int .i64 0, .int .i64 0, .int .i64 0, .int .i64 0, .int .i64 0, .int .i64 0, .int .i64 0, .int .i64 0, .int .i64 0, .int .i64 0, .int .i64 0, .int .i64 0, .int .i64 0, .int .i64 0, .int .i64 0, .int .i64 0, .int .i64 0, .int .i64 0, .int .i64 0, .int .i64 0, .int .i64 0, .int .i64 0, .int .i64 0, .int .i64 0, .int .i64 0, .int .i64 0, .int .i64 0, .int .i64 0, .int .i64 0] 44)).setRow w5.heap.size (tbc X)) ∧ MH w _ W := ⟨_, rfl, HA.out⟩
  rw [← hW]
  clear H0 H1 H2 H3 H4 H5 H6 H7 H8 H9 HA hW HP HT HX
  have hr : W.heap[w.heap.size + 1]? = some (.cells (tbc zs4r) 26 (0, 0)) := hMH.at (by simp)
  have hx : TbIs W w5.heap.size X := hMH.at (by simp)
  have hB := hMH.B
  clear hMH
  obtain ⟨x0, x1, x2, x3, ht4, g0, g1, g2, g3⟩ : ∃ x0 x1 x2 x3 : Fr, X.take 4 = [x0, x1, x2, x3] ∧ FAt W w5.heap.size (0 * 3) x0 ∧ FAt W w5.heap.size (1 * 3) x1 ∧ FAt W w5.heap.size (2 * 3) x2 ∧ FAt W w5.heap.size (3 * 3) x3 :=
    ⟨X.getD 0 zK, X.getD 1 zK, X.getD 2 zK, X.getD 3 zK, by match X, hXl with | x0 :: x1 :: x2 :: x3 :: xs, _ => rfl, hx.get (i := 0) (by omega), hx.get (i := 1) (by omega), hx.get (i := 2) (by omega), hx.get (i := 3) (by omega)⟩
  simp only [Nat.zero_mul, Nat.reduceMul] at g0 g1 g2 g3
  obtain ⟨c0, c1, c2⟩ := g0
  obtain ⟨c3, c4, c5⟩ := g1
  obtain ⟨c6, c7, c8⟩ := g2
  obtain ⟨c9, c10, c11⟩ := g3
  simp only [Nat.reduceAdd, Nat.zero_add] at c1 c2 c4 c5 c7 c8 c10 c11
  have HT4 := Lib.hid ht4
  have HXL := Lib.hid hXl
  clear ht4 hx
  cases e1 : o1.isSome
  · (have hz := HR.out
     have hz2 : rowI s = none := by rw [hz]; simp [*]
     have HZ2 := Lib.hid hz2
     clear hz hz2 HR
     go_wp2_with (refine wpList_store_row rfl 26 _ _ rfl (w.heap.size + 1) (tbc zs4r) rfl rfl 26 (tbc zs4r) hr (szRow _ rfl) rfl (tbc_one _) ?_)
     refine bodyPost_ret (v := rwb (rowI s)) ((results_row_slot Tryz.results25 _ _ (w.heap.size + 1) 26 (tbc zs4r) (0, 0) _ rfl (setRow_heap _ _ (tbc zs4r) _ _ _ hr) Tryz.underlying26 rfl (szRow _ rfl)).trans ?_) rfl ⟨rfl, below_setRow hB (by omega) _⟩
     rw [HZ2.out]
     rfl)
  cases e3 : o3.isSome
  · (have hz := HR.out
     have hz2 : rowI s = none := by rw [hz]; simp [*]
     have HZ2 := Lib.hid hz2
     clear hz hz2 HR
     go_wp2_with (refine wpList_store_row rfl 26 _ _ rfl (w.heap.size + 1) (tbc zs4r) rfl rfl 26 (tbc zs4r) hr (szRow _ rfl) rfl (tbc_one _) ?_)
     refine bodyPost_ret (v := rwb (rowI s)) ((results_row_slot Tryz.results25 _ _ (w.heap.size + 1) 26 (tbc zs4r) (0, 0) _ rfl (setRow_heap _ _ (tbc zs4r) _ _ _ hr) Tryz.underlying26 rfl (szRow _ rfl)).trans ?_) rfl ⟨rfl, below_setRow hB (by omega) _⟩
     rw [HZ2.out]
     rfl)
  cases e5 : o5.isSome
  · (have hz := HR.out
     have hz2 : rowI s = none := by rw [hz]; simp [*]
     have HZ2 := Lib.hid hz2
     clear hz hz2 HR
     go_wp2_with (refine wpList_store_row rfl 26 _ _ rfl (w.heap.size + 1) (tbc zs4r) rfl rfl 26 (tbc zs4r) hr (szRow _ rfl) rfl (tbc_one _) ?_)
     refine bodyPost_ret (v := rwb (rowI s)) ((results_row_slot Tryz.results25 _ _ (w.heap.size + 1) 26 (tbc zs4r) (0, 0) _ rfl (setRow_heap _ _ (tbc zs4r) _ _ _ hr) Tryz.underlying26 rfl (szRow _ rfl)).trans ?_) rfl ⟨rfl, below_setRow hB (by omega) _⟩
     rw [HZ2.out]
     rfl)
  have hz := HR.out
  rw [e1, e3, e5] at hz
  have HZ2 := Lib.hid hz
  clear hz HR
  have hap := fun (W : World) (a : Option Addr) (cap : Nat) => run_arrayAt (P := Tryz.prog) W 26 25 4 a 4 cap Tryz.underlying26 (Nat.le_refl _)
  go_wp2_with (refine wpList_store_row rfl 26 _ _ rfl (w.heap.size + 1) (tbc [x0, x1, x2, x3]) rfl rfl 26 (tbc zs4r) hr (szRow _ rfl) rfl (tbc_one _) ?_)
  refine bodyPost_ret (v := rwb (rowI s)) ((results_row_slot Tryz.results25 _ _ (w.heap.size + 1) 26 (tbc [x0, x1, x2, x3]) (0, 0) _ rfl (setRow_heap _ _ (tbc zs4r) _ _ _ hr) Tryz.underlying26 rfl (szRow _ rfl)).trans ?_) rfl ⟨rfl, below_setRow hB (by omega) _⟩
  rw [HZ2.out]
  simp only [Bool.and_self, if_true, HT4.out]
  rfl
end Go.Proofs.YtodhbkinbcemnaaGreatDoor
