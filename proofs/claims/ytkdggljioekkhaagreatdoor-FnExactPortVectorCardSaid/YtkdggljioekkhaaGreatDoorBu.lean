/-
  The walk of the program's run of light through a bench.
-/
import Derived.Test.YtkdggljioekkhaaGreatDoorBj
import Derived.Test.YtkdggljioekkhaaGreatDoorBs
import Derived.Test.YtkdggljioekkhaaGreatDoorNb
namespace Go.Proofs.YtkdggljioekkhaaGreatDoor
set_option linter.unusedSimpArgs false
set_option linter.unusedVariables false
open Go.RowKit
attribute [local go_sem ↓] Go.wp_at_zero Go.wp_at_succ
/-- The cells of a vector. -/
def jc (a : Jn) : Array Value := #[.int .i64 a.x.re, .int .i64 a.x.im, .int .i64 a.x.den, .int .i64 a.y.re, .int .i64 a.y.im, .int .i64 a.y.den]
theorem blk_j {W : World} {b : Nat} {a : Jn} {ty : TypeId} (h : Blk W b (jc a) ty) : (W.cell? ⟨b, 0, none⟩ = some (.int .i64 a.x.re) ∧ W.cell? ⟨b, 1, none⟩ = some (.int .i64 a.x.im) ∧ W.cell? ⟨b, 2, none⟩ = some (.int .i64 a.x.den) ∧ W.cell? ⟨b, 3, none⟩ = some (.int .i64 a.y.re) ∧ W.cell? ⟨b, 4, none⟩ = some (.int .i64 a.y.im) ∧ W.cell? ⟨b, 5, none⟩ = some (.int .i64 a.y.den)) ∧ (W.frozen? ⟨b, 0, none⟩ = false ∧ W.frozen? ⟨b, 1, none⟩ = false ∧ W.frozen? ⟨b, 2, none⟩ = false ∧ W.frozen? ⟨b, 3, none⟩ = false ∧ W.frozen? ⟨b, 4, none⟩ = false ∧ W.frozen? ⟨b, 5, none⟩ = false) := by
  refine ⟨⟨?_, ?_, ?_, ?_, ?_, ?_⟩, ?_, ?_, ?_, ?_, ?_, ?_⟩ <;> simp [World.cell?, World.frozen?, h, jc]
abbrev set6 (W : World) (b : Nat) (a : Jn) : World := (((((W.setCell ⟨b, 0, none⟩ (.int .i64 a.x.re)).setCell ⟨b, 1, none⟩ (.int .i64 a.x.im)).setCell ⟨b, 2, none⟩ (.int .i64 a.x.den)).setCell ⟨b, 3, none⟩ (.int .i64 a.y.re)).setCell ⟨b, 4, none⟩ (.int .i64 a.y.im)).setCell ⟨b, 5, none⟩ (.int .i64 a.y.den)
theorem blk_set6 {W : World} {b : Nat} {a : Jn} {ty : TypeId} (h : Blk W b (jc a) ty) (u : Jn) : Blk (set6 W b u) b (jc u) ty := by
  simp [Blk, World.setCell, Array.getElem?_modify, h, jc]
theorem far6 {W : World} {b c : Nat} {u : Jn} (h : c ≠ b) : (set6 W b u).heap[c]? = W.heap[c]? :=
  (Below.heap_setCell _ _ _ c h).trans ((Below.heap_setCell _ _ _ c h).trans ((Below.heap_setCell _ _ _ c h).trans ((Below.heap_setCell _ _ _ c h).trans ((Below.heap_setCell _ _ _ c h).trans (Below.heap_setCell _ _ _ c h)))))
/-- What a run keeps. -/
structure RU (ty : TypeId) (sz : Nat) (w : World) (lv : Value) (ps : List Pc) (cur : Jn) (W : World) : Prop where
  B : Below w.heap.size w W
  v : Blk W w.heap.size (jc cur) 28
  r : Blk W (w.heap.size + 1) (jc Z6) 28
  p : Pcs ty sz (w.heap.size + 2) lv ps W
section
variable {ty : TypeId} {sz : Nat} {w W W' : World} {lv : Value} {ps : List Pc} {cur : Jn}
theorem RU.below (h : RU ty sz w lv ps cur W) (hb : Below W.heap.size W W') : RU ty sz w lv ps cur W' :=
  ⟨bstep h.B hb h.B.size, (hb.block _ (blk_lt h.v)).trans h.v, (hb.block _ (blk_lt h.r)).trans h.r, h.p.below hb⟩
theorem Pcs.keep {base : Nat} (h : Pcs ty sz base lv ps W) (hz : W.heap.size ≤ W'.heap.size) (hk : ∀ c, base ≤ c → c < W.heap.size → W'.heap[c]? = W.heap[c]?) : Pcs ty sz base lv ps W' := by
  obtain ⟨hdrs, h⟩ := h
  refine ⟨hdrs, ⟨h.o.1, ?_⟩, fun i x hi => ?_⟩
  · rcases h.o.2 with hn | ⟨g, cap, cur, rfl, hbg, hg, rest⟩
    · exact .inl hn
    · exact .inr ⟨g, cap, cur, rfl, hbg, (hk g hbg (Array.getElem?_eq_some_iff.1 hg).1).trans hg, rest⟩
  · obtain ⟨nv, k1, k2, ⟨g, cap, rfl, n1, n2, n3, n4⟩, k4, k5⟩ := h.r i x hi
    refine ⟨_, k1, k2, ⟨g, cap, rfl, n1, n2, Nat.lt_of_lt_of_le n3 hz, fun j n hj => ?_⟩, k4, k5⟩
    rw [World.cell?_of_block (hk g (k4 g rfl).2 n3)]
    exact n4 j n hj
theorem RU.set (h : RU ty sz w lv ps cur W) (u : Jn) : RU ty sz w lv ps u (set6 W w.heap.size u) :=
  ⟨(((((h.B.setCell (Nat.le_refl _) _).setCell (Nat.le_refl _) _).setCell (Nat.le_refl _) _).setCell (Nat.le_refl _) _).setCell (Nat.le_refl _) _).setCell (Nat.le_refl _) _, blk_set6 h.v u, (far6 (by omega)).trans h.r, h.p.keep (by simp [set6]) (fun c h1 h2 => far6 (by omega))⟩
end
/-- One more piece. -/
theorem run_step {ps : List Pc} {v cur m1 : Jn} {m : Mt} {k : Nat} {x : Pc} {ok fine can : Bool} (hk : ps[k]? = some x) (h1 : ok = (jvalid v && (runL (ps.take k) v).isSome)) (h2 : ok = true → runL (ps.take k) v = some cur)
    (hm : (pcMat x).getD Z12 = m ∧ (pcMat x).isSome = fine) (hn : (mapplyI m cur).getD Z6 = m1 ∧ (mapplyI m cur).isSome = can) :
    ((ok && fine) && can) = (jvalid v && (runL (ps.take (k + 1)) v).isSome) ∧ (((ok && fine) && can) = true → runL (ps.take (k + 1)) v = some m1) := by
  have ht : runL (ps.take (k + 1)) v = runStep (runL (ps.take k) v) x := by
    unfold runL
    rw [List.take_add_one, hk]
    simp
  rw [ht]
  cases hv : jvalid v
  · rw [hv] at h1
    subst h1
    exact ⟨by simp, by simp⟩
  · rw [hv] at h1
    simp only [Bool.true_and] at h1 ⊢
    cases hr : runL (ps.take k) v with
    | none =>
      rw [hr] at h1
      subst h1
      exact ⟨by simp [runStep], by simp⟩
    | some c =>
      rw [hr] at h1
      subst h1
      obtain rfl : c = cur := Option.some.inj (hr.symm.trans (h2 rfl))
      show _ ∧ _
      unfold runStep
      rw [Option.bind_some]
      cases hp : pcMat x with
      | none =>
        rw [hp] at hm
        obtain ⟨-, rfl⟩ := hm
        exact ⟨by simp, by simp⟩
      | some mm =>
        rw [hp] at hm
        obtain ⟨e1, rfl⟩ := hm
        obtain rfl : mm = m := e1
        rw [Option.bind_some]
        cases ha : mapplyI mm c with
        | none =>
          rw [ha] at hn
          obtain ⟨-, rfl⟩ := hn
          exact ⟨by simp, by simp⟩
        | some d =>
          rw [ha] at hn
          obtain ⟨e2, rfl⟩ := hn
          obtain rfl : d = m1 := e2
          exact ⟨by simp, fun _ => rfl⟩
theorem mat_m (x : Pc) (nv : Value) (b : ByteArray) (m : Mt) (fine : Bool) (w : World) (ho : pcOk x.k x.ns = true) (hn : NumsAt w nv x.ns) (hO : GO w) (hZ : GZ w) (hT : GT w) (hm : Hid ((pcMat x).getD Z12 = m ∧ (pcMat x).isSome = fine)) :
    Calls Tryz.prog 102 #[.agg #[.int .u8 x.k.toNat, nv, .string b]] w fun e w' => e = .returned (.tuple #[mtv m, .bool fine]) ∧ Below w.heap.size w w' := by
  rw [← hm.out.1, ← hm.out.2]; exact mat_any x nv b w ho hn hO hZ hT
theorem mapply_m (m : Mt) (v m1 : Jn) (can : Bool) (w : World) (hn : Hid ((mapplyI m v).getD Z6 = m1 ∧ (mapplyI m v).isSome = can)) :
    Calls Tryz.prog 103 #[mtv m, jnv v] w fun e w' => e = .returned (.tuple #[jnv m1, .bool can]) ∧ Below w.heap.size w w' := by
  rw [← hn.out.1, ← hn.out.2]; exact mapply_any m v w
set_option maxRecDepth 100000 in
set_option maxHeartbeats 8000000 in
theorem run_none (s : ByteArray) (v : Jn) (w : World) (hs : s.size ≤ 1048576) (hG : GL w) (hb : benchI s.data.toList = none) :
    Calls Tryz.prog 67 #[.string s, jnv v] w fun e w' => e = .returned (jnb none) ∧ Below w.heap.size w w' := by
  have hG2 : GL ((w.alloc (.cells #[.int .i64 v.x.re, .int .i64 v.x.im, .int .i64 v.x.den, .int .i64 v.y.re, .int .i64 v.y.im, .int .i64 v.y.den] 28)).alloc (.cells #[.int .i64 0, .int .i64 0, .int .i64 0, .int .i64 0, .int .i64 0, .int .i64 0] 28)) := hG.below (by exact below_)
  have hc : ∀ W, GL W → Calls Tryz.prog 101 #[.string s] W fun e w' => e = .returned (.tuple #[.slice none 0 0, .bool false]) ∧ Below W.heap.size W w' := fun W hW =>
    (readBench_any s W hs hW).mono fun e w' ⟨lv, h1, h2, _, h4⟩ => ⟨by rw [h1, h2 hb, hb]; rfl, h4⟩
  clear hb
  go_enter Tryz.func67, Tryz.ntmps67
  go_upto_region 4 with (first | (go_at_call 101; (with_reducible refine (hc _ hG2).mono ?_); rintro e w1 ⟨rfl, hb⟩))
  have hr1 : Blk w1 (w.heap.size + 1) (jc Z6) 28 := by
    refine (hb.block _ (by simp)).trans ?_
    have := heap_alloc_last (w.alloc (.cells #[.int .i64 v.x.re, .int .i64 v.x.im, .int .i64 v.x.den, .int .i64 v.y.re, .int .i64 v.y.im, .int .i64 v.y.den] 28)) (.cells (jc Z6) 28)
    rwa [World.size_alloc] at this
  have hB1 : Below w.heap.size w w1 := bstep (by exact below_) hb (by simp; omega)
  obtain ⟨⟨v0, v1, v2, v3, v4, v5⟩, q0, q1, q2, q3, q4, q5⟩ := blk_j hr1
  clear hb hr1 hG2 hc
  go_loopw [7, 26] (fun okv i wr => okv = .bool false ∧ i = .int .i64 0 ∧ wr = w1) (fun _ _ _ => 0)
  case atStart => exact ⟨rfl, rfl, rfl⟩
  case round =>
    obtain ⟨rfl, rfl, rfl⟩ := hrel
    go_wp2
    exact bodyPost_ret (v := jnb none) (by simp [results, Tryz.results67, go_sem, *]) rfl ⟨rfl, by exact below_⟩
theorem runL_none_take {ps : List Pc} {v : Jn} {k : Nat} (h : runL (ps.take k) v = none) : runL ps v = none := by
  have e : runL ps v = (ps.drop k).foldl runStep (runL (ps.take k) v) := by
    unfold runL
    rw [← List.foldl_append, List.take_append_drop]
  rw [e, h]
  exact runL_none _
theorem runI_some {l : List UInt8} {ps : List Pc} {v : Jn} (h : benchI l = some ps) : runI l v = if jvalid v then runL ps v else none := by
  unfold runI
  rw [h, Option.bind_some]
set_option maxRecDepth 100000 in
set_option maxHeartbeats 20000000 in
theorem run_some (s : ByteArray) (ps : List Pc) (v : Jn) (w : World) (hs : s.size ≤ 1048576) (hG : GL w) (hO : GO w) (hZ : GZ w) (hT : GT w) (hb : benchI s.data.toList = some ps) :
    Calls Tryz.prog 67 #[.string s, jnv v] w fun e w' => e = .returned (jnb (runI s.data.toList v)) ∧ Below w.heap.size w w' := by
  obtain ⟨R, hR⟩ : ∃ R, runI s.data.toList v = R := ⟨_, rfl⟩
  obtain ⟨W0, hW0, hv0, hr0, hB0, hz0⟩ : ∃ W, W = (w.alloc (.cells #[.int .i64 v.x.re, .int .i64 v.x.im, .int .i64 v.x.den, .int .i64 v.y.re, .int .i64 v.y.im, .int .i64 v.y.den] 28)).alloc (.cells #[.int .i64 0, .int .i64 0, .int .i64 0, .int .i64 0, .int .i64 0, .int .i64 0] 28) ∧ Blk W w.heap.size (jc v) 28 ∧ Blk W (w.heap.size + 1) (jc Z6) 28 ∧ Below w.heap.size w W ∧ W.heap.size = w.heap.size + 2 := by
    refine ⟨_, rfl, (Below.heap_alloc _ _ _ (by simp)).trans (heap_alloc_last w _), ?_, by exact below_, by simp⟩
    have := heap_alloc_last (w.alloc (.cells #[.int .i64 v.x.re, .int .i64 v.x.im, .int .i64 v.x.den, .int .i64 v.y.re, .int .i64 v.y.im, .int .i64 v.y.den] 28)) (.cells (jc Z6) 28)
    rwa [World.size_alloc] at this
  have hc : ∀ W, GL W → W.heap.size = w.heap.size + 2 → Calls Tryz.prog 101 #[.string s] W fun e w' => ∃ lv, e = .returned (.tuple #[lv, .bool true]) ∧ Pcs 115 3 (w.heap.size + 2) lv ps w' ∧ Below W.heap.size W w' := fun W hW hz =>
    (readBench_any s W hs hW).mono fun e w' ⟨lv, h1, h2, h3, h4⟩ => ⟨lv, by rw [h1, hb]; rfl, by rw [← hz]; exact h3 ps hb, h4⟩
  have hok := (benchI_ok hb).2
  have hlen := (benchI_ok hb).1
  have hri := runI_some (v := v) hb
  rw [hR] at hri ⊢
  have HRI := Lib.hid hri
  clear hb hri hR
  go_enter Tryz.func67, Tryz.ntmps67
  go_upto_region 1 with fail
  rw [← hW0]
  clear hW0
  go_upto_region 2 with (go_at_call 101; (with_reducible refine (hc _ (hG.below hB0) hz0).mono ?_); rintro e w1 ⟨lv, rfl, hp, hb⟩)
  have hU : RU 115 3 w lv ps v w1 := ⟨bstep hB0 hb hB0.size, (hb.block _ (blk_lt hv0)).trans hv0, (hb.block _ (blk_lt hr0)).trans hr0, hp⟩
  clear hc hp hb hv0 hr0
  obtain ⟨⟨v0, v1, v2, v3, v4, v5⟩, -⟩ := blk_j hU.v
  obtain ⟨ok0, hok0⟩ : ∃ b, jvalid v = b := ⟨_, rfl⟩
  go_upto_region 3 with (go_at_call 73; (with_reducible refine (jvalid_any v _).mono ?_); rw [hok0]; rintro e w2 ⟨rfl, hb⟩)
  have hU2 := hU.below hb
  have HOK0 := Lib.hid hok0
  obtain ⟨A0, cap0, hlv⟩ := hU2.p.slice
  subst hlv
  clear hU hb v0 v1 v2 v3 v4 v5 hok0
  go_upto_region 4 with fail
  go_loopw [7, 26] (fun okv i wr => ∃ (k : Nat) (ok : Bool) (cur : Jn), k ≤ ps.length ∧ i = .int .i64 k ∧ okv = .bool ok ∧ Hid (ok = (jvalid v && (runL (ps.take k) v).isSome) ∧ (ok = true → runL (ps.take k) v = some cur)) ∧ RU 115 3 w (.slice A0 ps.length cap0) ps cur wr) (fun _ i _ => ps.length - (intOf i).toNat)
  case atStart => exact ⟨0, ok0, v, Nat.zero_le _, rfl, rfl, Lib.hid ⟨by rw [HOK0.out]; simp [runL], fun _ => rfl⟩, hU2⟩
  case round =>
    clear hU2
    obtain ⟨k, ok, cur, hk, rfl, rfl, hinv, hU⟩ := hrel
    have hzw := hU.B.size
    by_cases hkl : k < ps.length
    · obtain ⟨x, hx⟩ : ∃ x, ps[k]? = some x := ⟨_, List.getElem?_eq_getElem hkl⟩
      obtain ⟨g, cap, nv, hlv, hcap, hcm, hgb, hgl, c0, c1, hn, hstr⟩ := hU.p.at hx
      obtain ⟨b, c2⟩ := hstr 2 (by omega) (by omega)
      simp only [Value.slice.injEq, true_and] at hlv
      obtain ⟨rfl, rfl⟩ := hlv
      obtain ⟨g2, cap2, rfl, hn2⟩ := hn
      have hn : NumsAt wr (.slice (some ⟨g2, 0, none⟩) x.ns.length cap2) x.ns := ⟨g2, cap2, rfl, hn2⟩
      have hox := hok x (List.mem_of_getElem? hx)
      obtain ⟨m, fine, hm⟩ : ∃ m fine, (pcMat x).getD Z12 = m ∧ (pcMat x).isSome = fine := ⟨_, _, rfl, rfl⟩
      obtain ⟨nx, can, hnx⟩ : ∃ nx can, (mapplyI m cur).getD Z6 = nx ∧ (mapplyI m cur).isSome = can := ⟨_, _, rfl, rfl⟩
      have hst := run_step hx hinv.out.1 hinv.out.2 hm hnx
      have HM := Lib.hid hm
      have HN := Lib.hid hnx
      have HST := Lib.hid hst
      have hki : (k : Int) < ps.length := by omega
      have hkb : (k : Int) + 1 ≤ 9223372036854775807 := by omega
      have hUa := hU.below ((Below.refl _ _).alloc (Nat.le_refl _) (.cells #[.int .u8 x.k.toNat, .slice (some ⟨g2, 0, none⟩) x.ns.length cap2, .string b] 115))
      have hna := hn.below ((Below.refl _ _).alloc (Nat.le_refl _) (.cells #[.int .u8 x.k.toNat, .slice (some ⟨g2, 0, none⟩) x.ns.length cap2, .string b] 115))
      clear hm hnx hst hinv hn hn2 hstr hx hU
      go_upto_region 7 with (go_at_call 102; (with_reducible refine (mat_m x (.slice (some ⟨g2, 0, none⟩) x.ns.length cap2) b m fine _ hox hna (hO.below hUa.B) (hZ.below hUa.B) (hT.below hUa.B) HM).mono ?_); rintro e w3 ⟨rfl, hb⟩)
      have hU3 := hUa.below hb
      have hz3 : w.heap.size < w3.heap.size := blk_lt hU3.v
      obtain ⟨⟨v0, v1, v2, v3, v4, v5⟩, -⟩ := blk_j hU3.v
      clear hUa hna hb c0 c1 c2
      go_upto_region 8 with (go_at_call 103; (with_reducible refine (mapply_m m cur nx can _ HN).mono ?_); rintro e w4 ⟨rfl, hb⟩)
      have hU4 := (hU3.below ((Below.refl _ _).alloc (Nat.le_refl _) (.cells #[.int .i64 m.a.re, .int .i64 m.a.im, .int .i64 m.a.den, .int .i64 m.b.re, .int .i64 m.b.im, .int .i64 m.b.den, .int .i64 m.c.re, .int .i64 m.c.im, .int .i64 m.c.den, .int .i64 m.d.re, .int .i64 m.d.im, .int .i64 m.d.den] 85))).below hb
      have hz4 : w.heap.size < w4.heap.size := blk_lt hU4.v
      clear v0 v1 v2 v3 v4 v5 hb hU3
      obtain ⟨⟨v0, v1, v2, v3, v4, v5⟩, q0, q1, q2, q3, q4, q5⟩ := blk_j hU4.v
      have hU5 := (hU4.set nx).below ((Below.refl _ _).alloc (Nat.le_refl _) (.cells #[.int .i64 nx.x.re, .int .i64 nx.x.im, .int .i64 nx.x.den, .int .i64 nx.y.re, .int .i64 nx.y.im, .int .i64 nx.y.den] 28))
      clear hU4
      cases ok
      · go_wp2
        go_roundw
        case rel => exact ⟨k + 1, _, nx, by omega, by go_num, rfl, Lib.hid (by simpa using HST.out), hU5⟩
        case measure => simp [intOf]; omega
      cases fine
      · go_wp2
        go_roundw
        case rel => exact ⟨k + 1, _, nx, by omega, by go_num, rfl, Lib.hid (by simpa using HST.out), hU5⟩
        case measure => simp [intOf]; omega
      · go_wp2
        go_roundw
        case rel => exact ⟨k + 1, _, nx, by omega, by go_num, rfl, Lib.hid (by simpa using HST.out), hU5⟩
        case measure => simp [intOf]; omega
    · obtain rfl : k = ps.length := by omega
      rw [List.take_length] at hinv
      obtain ⟨⟨v0, v1, v2, v3, v4, v5⟩, -⟩ := blk_j hU.v
      obtain ⟨⟨r0, r1, r2, r3, r4, r5⟩, q0, q1, q2, q3, q4, q5⟩ := blk_j hU.r
      have hBw := hU.B
      cases ok
      · have he : R = none := by
          rw [HRI.out]
          have := hinv.out.1
          cases hj : jvalid v
          · rfl
          · rw [hj] at this
            simp only [Bool.true_and] at this
            cases hr : runL ps v with
            | none => rfl
            | some c => rw [hr] at this; cases this
        have HE := Lib.hid he
        clear he hU HRI hinv
        go_wp2
        exact bodyPost_ret (v := jnb none) (by simp [results, Tryz.results67, go_sem, *]) rfl ⟨by rw [HE.out], by exact below_⟩
      · have he : R = some cur := by
          rw [HRI.out]
          have h1 := hinv.out.1
          have h2 := hinv.out.2 rfl
          cases hj : jvalid v
          · rw [hj] at h1; cases h1
          · exact h2
        have HE := Lib.hid he
        clear he hU HRI hinv
        go_wp2
        exact bodyPost_ret (v := jnb (some cur)) (by simp [results, Tryz.results67, go_sem, *]) rfl ⟨by rw [HE.out], by exact below_⟩
theorem run_any (s : ByteArray) (v : Jn) (w : World) (hs : s.size ≤ 1048576) (hG : GL w) (hO : GO w) (hZ : GZ w) (hT : GT w) :
    Calls Tryz.prog 67 #[.string s, jnv v] w fun e w' => e = .returned (jnb (runI s.data.toList v)) ∧ Below w.heap.size w w' := by
  cases hb : benchI s.data.toList with
  | none =>
    have e : runI s.data.toList v = none := by unfold runI; rw [hb]; rfl
    rw [e]
    exact run_none s v w hs hG hb
  | some ps => exact run_some s ps v w hs hG hO hZ hT hb
end Go.Proofs.YtkdggljioekkhaaGreatDoor
