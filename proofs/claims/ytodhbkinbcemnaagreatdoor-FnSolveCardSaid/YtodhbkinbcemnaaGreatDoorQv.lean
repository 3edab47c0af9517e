/-
  Texts of this claim, joined: Zg; CoC. Nothing is claimed here; the other texts of this claim use it.
-/
import Derived.Test.YtodhbkinbcemnaaGreatDoorQs
import Derived.Test.YtodhbkinbcemnaaGreatDoorQx
import Derived.Test.YtodhbkinbcemnaaGreatDoorPg
import Derived.Test.YtodhbkinbcemnaaGreatDoorFd
import Derived.Test.YtodhbkinbcemnaaGreatDoorCards
import Derived.Test.YtodhbkinbcemnaaGreatDoorTie
import Derived.SevenTiedAt
namespace Go.Proofs.YtodhbkinbcemnaaGreatDoor
set_option linter.unusedSimpArgs false
set_option linter.unusedVariables false
section
open Go.RowKit
attribute [local go_sem ↓] Go.wp_at_zero Go.wp_at_succ
theorem msolve_T (A : Option Addr) (len cap : Nat) (xs : List Sta) (A2 : Option Addr) (len2 cap2 : Nat) (rs : List Fr) (q : Mt) (ok : Bool) (w : World) (hS : Sas A len cap xs w) (hF : Frs A2 len2 cap2 rs w) (hO : GO w) (hZ : GZ w) (hT : GT w) (e : Hid (arrV (solM xs rs) = .tuple #[mtv q, .bool ok])) :
    Calls Tryz.prog 16 #[.slice A len cap, .slice A2 len2 cap2] w fun e w' => e = .returned (.tuple #[mtv q, .bool ok]) ∧ Below w.heap.size w w' := by
  rw [← e.out]; exact msolve_any A len cap xs w hS A2 len2 cap2 rs hF hO hZ hT
theorem good_T (A : Option Addr) (len cap : Nat) (xs : List Sta) (w : World) (hS : Sas A len cap xs w) (hO : GO w) (hZ : GZ w) (hT : GT w) (ok : Bool) (e : Hid (goodM xs = ok)) :
    Calls Tryz.prog 15 #[.slice A len cap] w fun e w' => e = .returned (.bool ok) ∧ Below w.heap.size w w' := by
  rw [← e.out]; exact good_any A len cap xs w hS hO hZ hT
theorem arrV_someT {o : Option (List Fr)} {q : Mt} (h : arrV o = .tuple #[mtv q, .bool true]) : o = some (row4 q) := by
  match o, h with
  | none, h => simp [arrV] at h
  | some [], h => simp [arrV] at h
  | some [_], h => simp [arrV] at h
  | some [_, _], h => simp [arrV] at h
  | some [_, _, _], h => simp [arrV] at h
  | some [⟨a0, a1, a2⟩, ⟨b0, b1, b2⟩, ⟨c0, c1, c2⟩, ⟨d0, d1, d2⟩], h =>
    obtain ⟨⟨e0, e1, e2⟩, ⟨f0, f1, f2⟩, ⟨g0, g1, g2⟩, ⟨h0, h1, h2⟩⟩ := q
    simp [arrV] at h
    simp [row4, h]
  | some (_ :: _ :: _ :: _ :: _ :: _), h => simp [arrV] at h
theorem smsolve_T (A : Option Addr) (len cap : Nat) (xs : List Sta) (A2 : Option Addr) (len2 cap2 : Nat) (rs : List Fr) (q : Mt) (ok : Bool) (w : World) (hS : Sas A len cap xs w) (hF : Frs A2 len2 cap2 rs w) (e : Hid (arrV (solM xs rs) = .tuple #[mtv q, .bool ok])) :
    Calls Tryz.prog 18 #[.slice A len cap, .slice A2 len2 cap2] w fun e w' => e = .returned (.tuple #[mtv q, .bool ok]) ∧ Below w.heap.size w w' := by
  rw [← e.out]; exact smsolve_any A len cap xs w hS A2 len2 cap2 rs hF
section
attribute [local go_sem] eqM_run
set_option maxRecDepth 100000 in
set_option maxHeartbeats 8000000 in
theorem fnSolve_walk (A : Option Addr) (len cap : Nat) (w : World) (hby : Bytes A len cap w) (hGO : GO w) (hGZ : GZ w) (hGT : GT w) :
    Calls Tryz.prog 5 #[.slice A len cap] w fun e w' => e = .returned (.bool true) ∧ Below w.heap.size w w' := by
  have hcap := hby.2.1
  have hlc := hby.1
  by_cases hbig : 1048576 < len
  · have hd : decide ((1048576 : Int) < (len : Int)) = true := by simp; omega
    go_enter Tryz.func5, Tryz.ntmps5
    go_wp2
    go_ret
    exact ⟨rfl, by exact below_⟩
  have hd : decide ((1048576 : Int) < (len : Int)) = false := by simp; omega
  go_enter Tryz.func5, Tryz.ntmps5
  go_upto_region 4 with (first | (go_at_call 17; (with_reducible refine (drawMeterSolve_any A len cap _ hby).mono ?_); rintro e V ⟨xs, rs, v, u, rfl, ⟨hOA, hxl, hOF, hrl⟩, hBV⟩))
  obtain ⟨A1, c1, rfl, hS⟩ := hOA.frs
  obtain ⟨A2, c2, rfl, hF⟩ := hOF.frs
  obtain ⟨m1, hm1⟩ : ∃ n, n = xs.length := ⟨_, rfl⟩
  obtain ⟨n1, hn1⟩ : ∃ n, n = rs.length := ⟨_, rfl⟩
  rw [← hm1] at hS hxl ⊢
  rw [← hn1] at hF hrl ⊢
  obtain ⟨q, ok, hq⟩ := arrV_form (solM xs rs)
  have HC := Lib.hid hq
  clear hq hm1 hn1 hOA hOF
  go_upto_region 5 with (first | (go_at_call 16; (with_reducible refine (msolve_T A1 m1 c1 xs A2 n1 c2 rs q ok _ hS hF (hGO.below hBV) (hGZ.below hBV) (hGT.below hBV) HC).mono ?_); rintro e w2 ⟨rfl, hb⟩))
  obtain ⟨b5, hb5⟩ : ∃ b, b = w2.heap.size := ⟨_, rfl⟩
  obtain ⟨W2, hW2, hQ2, hB2⟩ : ∃ W, W = w2.alloc (.cells #[.int .i64 q.a.re, .int .i64 q.a.im, .int .i64 q.a.den, .int .i64 q.b.re, .int .i64 q.b.im, .int .i64 q.b.den, .int .i64 q.c.re, .int .i64 q.c.im, .int .i64 q.c.den, .int .i64 q.d.re, .int .i64 q.d.im, .int .i64 q.d.den] 28) ∧ Blk W b5 (mtc q) 28 ∧ Below V.heap.size V W := ⟨_, rfl, by rw [hb5]; exact heap_alloc_last w2 _, hb.alloc hb.size _⟩
  rw [← hW2, ← hb5]
  clear hW2 hb5 hb
  go_upto_region 6 with (first | (go_at_call 18; (with_reducible refine (smsolve_T A1 m1 c1 xs A2 n1 c2 rs q ok _ (hS.below hB2) (hF.below hB2) HC).mono ?_); rintro e w3 ⟨rfl, hb⟩))
  obtain ⟨b7, hb7⟩ : ∃ b, b = w3.heap.size := ⟨_, rfl⟩
  obtain ⟨W3, hW3, hQ3, hR3, hB3⟩ : ∃ W, W = w3.alloc (.cells #[.int .i64 q.a.re, .int .i64 q.a.im, .int .i64 q.a.den, .int .i64 q.b.re, .int .i64 q.b.im, .int .i64 q.b.den, .int .i64 q.c.re, .int .i64 q.c.im, .int .i64 q.c.den, .int .i64 q.d.re, .int .i64 q.d.im, .int .i64 q.d.den] 28) ∧ Blk W b5 (mtc q) 28 ∧ Blk W b7 (mtc q) 28 ∧ Below V.heap.size V W :=
    ⟨_, rfl, (Below.heap_alloc _ _ _ (by have := hb.size; have := blk_lt hQ2; omega)).trans ((hb.block _ (blk_lt hQ2)).trans hQ2), by rw [hb7]; exact heap_alloc_last w3 _, (bstep hB2 hb hB2.size).alloc (by have := hb.size; have := hB2.size; omega) _⟩
  rw [← hW3, ← hb7]
  clear hW3 hb7 hb hQ2 hB2
  obtain ⟨p0, p1, p2, p3, p4, p5, p6, p7, p8, p9, p10, p11⟩ := blk_m hQ3
  obtain ⟨s0, s1, s2, s3, s4, s5, s6, s7, s8, s9, s10, s11⟩ := blk_m hR3
  have hBw : Below w.heap.size w W3 := bstep hBV hB3 hBV.size
  cases hk : ok
  · clear hQ3 hR3
    go_wp2
    go_ret
    exact ⟨rfl, by exact below_⟩
  have hsol : solM xs rs = some (row4 q) := arrV_someT (hk ▸ HC.out)
  obtain ⟨l1, l2, l3⟩ := solve_law hsol
  have HR := Lib.hid l1
  have HG := Lib.hid l2
  have HX := Lib.hid l3
  obtain ⟨ys, p, hy⟩ : ∃ ys p, (readM xs q).getD [] = ys ∧ (readM xs q).isSome = p := ⟨_, _, rfl, rfl⟩
  have HY := Lib.hid hy
  have hyp : p = true → ys = rs := fun h => by
    obtain ⟨h1, h2⟩ := hy
    rw [h] at h2
    obtain ⟨z, hz⟩ := Option.isSome_iff_exists.1 h2
    rw [hz, Option.getD_some] at h1
    rw [← h1]; exact l3 z hz
  have HYP := Lib.hid hyp
  have hS3 := hS.below hB3
  have hF3 := hF.below hB3
  clear hsol l1 l2 l3 hy hyp hk HC hS hF hR3
  go_upto_region 8 with fail
  clear s0 s1 s2 s3 s4 s5 s6 s7 s8 s9 s10 s11
  go_upto_region 9 with (first | (go_at_call 7; (with_reducible refine (readT A1 m1 c1 xs q ys p _ hS3 (hGO.below hBw) (hGZ.below hBw) (hGT.below hBw) HY).mono ?_); rintro e w5 ⟨v9, rfl, O9, hb⟩))
  have hQ5 := (hb.block _ (blk_lt hQ3)).trans hQ3
  obtain ⟨t0, t1, t2, t3, t4, t5, t6, t7, t8, t9, t10, t11⟩ := blk_m hQ5
  clear p0 p1 p2 p3 p4 p5 p6 p7 p8 p9 p10 p11
  have hB5 : Below w.heap.size w w5 := bstep hBw hb hBw.size
  have hS5 := hS3.below hb
  have hF5 := hF3.below hb
  obtain ⟨A9, c9, rfl, hF9⟩ := O9.frs
  clear hb hS3 hF3 hBw O9 hQ3
  cases hp : p
  · go_wp2_with (first | (go_at_call 19; (with_reducible refine (stokes_any q _).mono ?_); rw [HR.out]; rintro e w7 ⟨rfl, hb⟩; have hS5 := hS5.below hb; have hB5 := bstep hB5 hb hB5.size; clear hb) | (go_at_call 15; (with_reducible refine (good_T A1 m1 c1 xs _ hS5 (hGO.below hB5) (hGZ.below hB5) (hGT.below hB5) true HG).mono ?_); rintro e w8 ⟨rfl, hb⟩; have hB5 := bstep hB5 hb hB5.size; clear hb))
    go_ret
    exact ⟨rfl, by exact below_⟩
  · obtain rfl : ys = rs := HYP.out hp
    have hl9 : ys.length = n1 := hF5.1
    rw [hl9] at hF9 ⊢
    clear hl9
    go_wp2_with (first | (go_at_call 9; (with_reducible refine (sameFrs_refl A9 A2 n1 c9 c2 ys _ hF9 hF5).mono ?_); rintro e w6 ⟨rfl, hb⟩; have hS5 := hS5.below hb; have hB5 := bstep hB5 hb hB5.size; have hQ5 := (hb.block _ (blk_lt hQ5)).trans hQ5; obtain ⟨t0, t1, t2, t3, t4, t5, t6, t7, t8, t9, t10, t11⟩ := blk_m hQ5; clear hb) | (go_at_call 19; (with_reducible refine (stokes_any q _).mono ?_); rw [HR.out]; rintro e w7 ⟨rfl, hb⟩; have hS5 := hS5.below hb; have hB5 := bstep hB5 hb hB5.size; clear hb) | (go_at_call 15; (with_reducible refine (good_T A1 m1 c1 xs _ hS5 (hGO.below hB5) (hGZ.below hB5) (hGT.below hB5) true HG).mono ?_); rintro e w8 ⟨rfl, hb⟩; have hB5 := bstep hB5 hb hB5.size; clear hb))
    go_ret
    exact ⟨rfl, by exact below_⟩
end
end
section
open Go.ChangeShapes Go.WideShapes Go.ChangeAt Go.RowKit Go.WideElems
namespace fnSolve
set_option maxRecDepth 100000 in
/-- What the walk gives, for every argument and every world that holds the listed variables. -/
theorem contract (H : Type) (enc : TypeId × Value → H) (W : World) (base : Nat) (args : Array Value) (ds gs : List (DataW H)) (before : List MemPlace)
    (hval : ∀ (j : Nat) t v, Tryz.f5.params[j]? = some t → args[j]? = some v → Value.okWide Tryz.prog W .any base t v)
    (hW : DataW.Whole enc Tryz.prog Tryz.f5.params.toList Rows.fnSolveSpec.vars false W args.toList ds gs before) (hL : laidMetH Tryz.prog Rows.fnSolveRow.laid W) :
    Calls Tryz.prog 5 args W fun e W' => ∃ v, e = .returned v ∧ Rows.fnSolveSpec.post enc Tryz.prog Tryz.f5 false true false false W args v W' := by
  have hW' := hW
  obtain ⟨p, q, hA0, hV, rfl, hfz, hnd⟩ := hW
  have hA : DataW.TrodAll enc Tryz.prog W 0 (fun _ => true) true Tryz.f5.params.toList args.toList ds p := hA0
  rw [Tryz.params5] at hA hval
  obtain ⟨v0, vs0, d0, ds0, p0, q0, hargs, rfl, rfl, h0, r0⟩ := trodAll_cons hA
  obtain ⟨rfl, rfl, rfl⟩ := trodAll_nil r0
  obtain rfl : args = #[v0] := by cases args; simp_all
  obtain ⟨Axs, lenxs, capxs, rfl, hbyxs⟩ := open_bytes (hval 0 22 v0 rfl rfl) h0
  rw [MakeChecks.laidMetH_plain _ _ _ (by kernel_rfl)] at hL
  obtain ⟨_, ⟨g0, t0, cs0, f0, pp0, qq0, hg0, ht0, hv0, hd0, ⟨g1, t1, cs1, f1, pp1, qq1, hg1, ht1, hv1, hd1, ⟨g2, t2, cs2, f2, pp2, qq2, hg2, ht2, hv2, hd2, _, _⟩, _⟩, _⟩, _, _⟩ := hL
  have hGZ : GZ W := gv_zero hg0 ht0 hv0 hd0
  have hGO : GO W := gv_one hg1 ht1 hv1 hd1
  have hGT : GT W := gv_turns hg2 ht2 hv2 hd2
  have hgs : gs.length = 3 := trodVars_length hV
  obtain ⟨y0, y1, y2, rfl⟩ : ∃ y0 y1 y2, gs = [y0, y1, y2] := by
    match gs, hgs with
    | [y0, y1, y2], _ => exact ⟨y0, y1, y2, rfl⟩
  have hp : ∀ t ∈ Tryz.f5.params.toList, Tryz.prog.readableRec t = true ∧ t < Tryz.prog.types.size := by
      rw [Tryz.params5]
      intro t ht
      have hm : t ∈ [22] := by simpa using ht
      have hall : ([22].all fun u => Tryz.prog.readableRec u && decide (u < Tryz.prog.types.size)) = true := by kernel_rfl
      have := List.all_eq_true.1 hall t hm
      simpa using this
  have hvv : ∀ n ∈ Rows.fnSolveSpec.vars, ∀ g t, Tryz.prog.globalNamed n = some g → (Tryz.prog.globals[g]?).map (·.type) = some t → Tryz.prog.readableRec t = true ∧ t < Tryz.prog.types.size := by
      intro n hn g t hg ht
      simp only [Rows.fnSolveSpec, List.mem_cons, List.not_mem_nil, or_false] at hn
      rcases hn with rfl | rfl | rfl
      · exact gr_one g t hg ht
      · exact gr_zero g t hg ht
      · exact gr_turns g t hg ht
  refine (fnSolve_walk Axs lenxs capxs W hbyxs hGO hGZ hGT).mono fun e W' ⟨he, hb⟩ => ?_
  subst he
  exact ⟨_, rfl, post_true hW' hb (by kernel_rfl) hp hvv rfl rfl rfl⟩
/-- A world for the witness: the settled one, the listed variables holding what their initialisers lay. -/
noncomputable def laidWorld (os : Os) : World := { World.holding Tryz.prog os ⟨#[], #[], []⟩ with heap := ((((World.holding Tryz.prog os ⟨#[], #[], []⟩).heap.modify 1 fun | .cells _ t frozen => .cells #[.int .i64 0, .int .i64 0, .int .i64 1] t frozen | o => o).modify 0 fun | .cells _ t frozen => .cells #[.int .i64 1, .int .i64 0, .int .i64 1] t frozen | o => o).modify 2 fun | .cells _ t frozen => .cells #[.int .i64 1, .int .i64 0, .int .i64 1, .int .i64 0, .int .i64 1, .int .i64 1, .int .i64 (-1), .int .i64 0, .int .i64 1, .int .i64 0, .int .i64 (-1), .int .i64 1] t frozen | o => o) }
theorem laid_met (os : Os) : laidMet Tryz.prog Rows.fnSolveRow.laid ((laidWorld os).forCall (fun _ _ => 0) ⟨#[], #[.slice none 0 0], []⟩).memory :=
  laidMet_of_run' 8 (by kernel_rfl) (by kernel_rfl)
theorem reads (os : Os) {H : Type} (enc : TypeId × Value → H) : DataW.whole enc Tryz.prog ((laidWorld os).forCall (fun _ _ => 0) ⟨#[], #[.slice none 0 0], []⟩).memory Tryz.f5.params.toList Rows.fnSolveSpec.vars false (#[.slice none 0 0] : Array Value).toList 8 = some ([.nil], [.agg [.lit (.int .i64 1), .lit (.int .i64 0), .lit (.int .i64 1)], .agg [.lit (.int .i64 0), .lit (.int .i64 0), .lit (.int .i64 1)], .agg [.agg [.lit (.int .i64 1), .lit (.int .i64 0), .lit (.int .i64 1)], .agg [.lit (.int .i64 0), .lit (.int .i64 1), .lit (.int .i64 1)], .agg [.lit (.int .i64 (-1)), .lit (.int .i64 0), .lit (.int .i64 1)], .agg [.lit (.int .i64 0), .lit (.int .i64 (-1)), .lit (.int .i64 1)]]], [.cell 0 0, .cell 0 1, .cell 0 2, .cell 1 0, .cell 1 1, .cell 1 2, .cell 2 0, .cell 2 1, .cell 2 2, .cell 2 3, .cell 2 4, .cell 2 5, .cell 2 6, .cell 2 7, .cell 2 8, .cell 2 9, .cell 2 10, .cell 2 11]) := by kernel_rfl
set_option maxRecDepth 100000 in
theorem lifted (os : Os) (started : os.Started) (H : Type) (enc : TypeId × Value → H) (F : Stop.Interp) :
    ReturnsInHanded {} Tryz.checked os 5 .any ((OpenSpec.ofChange Rows.fnSolveSpec).preRow enc Tryz.prog Tryz.f5 Rows.fnSolveRow.domain false Rows.fnSolveRow.laid) (((OpenSpec.ofChange Rows.fnSolveSpec).at F).post enc Tryz.prog Tryz.f5 false true false false) := by
  refine returnsInHanded_of_row (C := Tryz.checked) (s := OpenSpec.ofChange Rows.fnSolveSpec) own started (by kernel_rfl) Tryz.func5
    (witness_row_at (enc := enc) (C := Tryz.checked) false (laidWorld os) #[.slice none 0 0] rfl (by kernel_rfl) (by kernel_rfl) (by kernel_rfl)
      (OpenSpec.preRow_of_cond 8 (reads os enc) (by kernel_rfl) (fun k hk => by cases hk) (by kernel_rfl) (laid_met os))) ?_
  intro W base args ds gs before hval hW _ _ _ hL _ _
  exact contract H enc W base args ds gs before hval hW hL
theorem said : Rows.FnSolveSaid :=
  OpenClaim.holds_of_cond 5 Tryz.f5 rfl rfl rfl rfl rfl rfl rfl ⟨rfl, rfl, rfl, rfl, rfl⟩ rfl rfl rfl rfl rfl (by kernel_rfl) Tryz.func5 (by kernel_rfl)
    (of_decide_eq_true (by kernel_rfl)) (by unfold Func.isWrapper; first | (rw [if_pos (by decide +kernel)]; kernel_rfl) | (rw [if_neg (by decide +kernel)]; exact ⟨rfl, rfl⟩))
    (fun os started H enc _ F => by rw [OpenClaim.pre_eq_preRow]; exact lifted os started H enc F)
theorem plain (f : FuncId) (fn : Func) (hf : Tryz.pinned.checked.prog.funcNamed "loop.example/polarisedlight/laws.FnSolve" = some f) (hfn : Tryz.pinned.checked.prog.funcs[f]? = some fn) :
    false = Tryz.pinned.checked.prog.looks [] ∧ ∀ (j : Nat) t, fn.params[j]? = some t → Tryz.pinned.checked.prog.wantsStandIn t = false := by
  obtain rfl : f = 5 := Option.some.inj ((show Tryz.prog.funcNamed "loop.example/polarisedlight/laws.FnSolve" = some 5 by kernel_rfl).symm.trans hf) |>.symm
  obtain rfl : fn = Tryz.f5 := (Option.some.inj (Tryz.func5.symm.trans hfn)).symm
  refine ⟨by kernel_rfl, fun j t ht => ?_⟩
  rw [Tryz.params5] at ht
  have hm : t ∈ [22] := by simpa using Array.mem_of_getElem? ht
  have hall : ([22].all fun u => !Tryz.prog.wantsStandIn u) = true := by kernel_rfl
  exact (show Tryz.prog.wantsStandIn t = false by simpa using List.all_eq_true.1 hall t hm)
/-- The card of the law: its row holds, and what it lists is tied to the program's text. -/
theorem card : Rows.FnSolveCardSaid :=
  Claim7.holds_tied_plain_at .later [] _ _ _ _ said (fun _ h => by cases h) (by kernel_rfl) (fun _ h => by cases h) fnSolve_row_tie rfl ⟨rfl, rfl⟩ (by kernel_rfl) rfl plain (by kernel_rfl)
end fnSolve
end
end Go.Proofs.YtodhbkinbcemnaaGreatDoor
