/-
  The walk of the reference's run of light through a bench.
-/
import Derived.Test.YtkdggljioekkhaaGreatDoorIc
import Derived.Test.YtkdggljioekkhaaGreatDoorBt
import Derived.Test.YtkdggljioekkhaaGreatDoorBu
import Derived.Test.YtkdggljioekkhaaGreatDoorNa
namespace Go.Proofs.YtkdggljioekkhaaGreatDoor
set_option linter.unusedSimpArgs false
set_option linter.unusedVariables false
open Go.RowKit
attribute [local go_sem ↓] Go.wp_at_zero Go.wp_at_succ
theorem blk_mt {W : World} {b : Nat} {m : Mt} {ty : TypeId} (h : Blk W b (mtc m) ty) : W.cell? ⟨b, 0, none⟩ = some (.int .i64 m.a.re) ∧ W.cell? ⟨b, 1, none⟩ = some (.int .i64 m.a.im) ∧ W.cell? ⟨b, 2, none⟩ = some (.int .i64 m.a.den) ∧ W.cell? ⟨b, 3, none⟩ = some (.int .i64 m.b.re) ∧ W.cell? ⟨b, 4, none⟩ = some (.int .i64 m.b.im) ∧ W.cell? ⟨b, 5, none⟩ = some (.int .i64 m.b.den) ∧ W.cell? ⟨b, 6, none⟩ = some (.int .i64 m.c.re) ∧ W.cell? ⟨b, 7, none⟩ = some (.int .i64 m.c.im) ∧ W.cell? ⟨b, 8, none⟩ = some (.int .i64 m.c.den) ∧ W.cell? ⟨b, 9, none⟩ = some (.int .i64 m.d.re) ∧ W.cell? ⟨b, 10, none⟩ = some (.int .i64 m.d.im) ∧ W.cell? ⟨b, 11, none⟩ = some (.int .i64 m.d.den) := by
  refine ⟨?_, ?_, ?_, ?_, ?_, ?_, ?_, ?_, ?_, ?_, ?_, ?_⟩ <;> simp [World.cell?, h, mtc]
/-- One more piece, of a run that stops where something is none. -/
theorem srun_step {ps : List Pc} {v cur m1 : Jn} {m : Mt} {k : Nat} {x : Pc} {fine can : Bool} (hk : ps[k]? = some x) (h1 : jvalid v = true) (h2 : runL (ps.take k) v = some cur)
    (hm : (pcMat x).getD Z12 = m ∧ (pcMat x).isSome = fine) (hn : (mapplyI m cur).getD Z6 = m1 ∧ (mapplyI m cur).isSome = can) :
    (fine && can) = (jvalid v && (runL (ps.take (k + 1)) v).isSome) ∧ ((fine && can) = true → runL (ps.take (k + 1)) v = some m1) := by
  have h := run_step (ok := true) hk (by rw [h1, h2]; rfl) (fun _ => h2) hm hn
  simpa using h
theorem smat_m (x : Pc) (nv : Value) (m : Mt) (fine : Bool) (w : World) (ho : pcOk x.k x.ns = true) (hn : NumsAt w nv x.ns) (hm : Hid ((pcMat x).getD Z12 = m ∧ (pcMat x).isSome = fine)) :
    Calls Tryz.prog 64 #[.agg #[.int .u8 x.k.toNat, nv]] w fun e w' => e = .returned (.tuple #[mtv m, .bool fine]) ∧ Below w.heap.size w w' := by
  rw [← hm.out.1, ← hm.out.2]; exact smat_any x nv w ho hn
theorem smapply_m (m : Mt) (v m1 : Jn) (can : Bool) (w : World) (hn : Hid ((mapplyI m v).getD Z6 = m1 ∧ (mapplyI m v).isSome = can)) :
    Calls Tryz.prog 65 #[mtv m, jnv v] w fun e w' => e = .returned (.tuple #[jnv m1, .bool can]) ∧ Below w.heap.size w w' := by
  rw [← hn.out.1, ← hn.out.2]; exact smapply_any m v w
/-- l7Bench, whatever it reads. -/
theorem sbench_any (s : ByteArray) (w : World) :
    Calls Tryz.prog 62 #[.string s] w fun e w' => ∃ A len cap, e = .returned (.tuple #[.slice A len cap, .bool (benchI s.data.toList).isSome]) ∧ (∀ ps, benchI s.data.toList = some ps → Pcs 90 2 w.heap.size (.slice A len cap) ps w') ∧ Below w.heap.size w w' := by
  rw [bench_eq]
  by_cases h : s.data.toList = []
  · have h0 : s = ⟨#[]⟩ := by
      have := bytes_mk s
      rw [h] at this
      exact this.symm
    subst h0
    exact (sbench_nil w).mono fun e w' ⟨A, len, cap, h1, h2, h3⟩ => ⟨A, len, cap, h1, (fun ps h => by obtain rfl := Option.some.inj h; exact h2), h3⟩
  · by_cases h3 : 300 < s.size
    · have hn : benchS s.data.toList = none := by
        unfold benchS
        rw [if_neg h, if_pos (by rw [← Lib.size_eq]; exact h3)]
      rw [hn]
      exact (sbench_long s w h3).mono fun e w' ⟨A, len, cap, h1, h2⟩ => ⟨A, len, cap, h1, (fun ps h => by cases h), h2⟩
    · exact sbench_cons s _ rfl h w (by omega)
set_option maxRecDepth 100000 in
set_option maxHeartbeats 8000000 in
theorem srun_none (s : ByteArray) (v : Jn) (w : World) (hb : benchI s.data.toList = none) :
    Calls Tryz.prog 35 #[.string s, jnv v] w fun e w' => e = .returned (jnb none) ∧ Below w.heap.size w w' := by
  have hc : ∀ W, Calls Tryz.prog 62 #[.string s] W fun e w' => ∃ A len cap, e = .returned (.tuple #[.slice A len cap, .bool false]) ∧ Below W.heap.size W w' := fun W =>
    (sbench_any s W).mono fun e w' ⟨A, len, cap, h1, _, h4⟩ => ⟨A, len, cap, by rw [h1, hb]; rfl, h4⟩
  clear hb
  go_enter Tryz.func35, Tryz.ntmps35
  go_upto_region 2 with (first | (go_at_call 62; (with_reducible refine (hc _).mono ?_); rintro e w1 ⟨A, len, cap, rfl, hb⟩))
  have hr1 : Blk w1 (w.heap.size + 1) (jc Z6) 28 := by
    refine (hb.block _ (by simp)).trans ?_
    have := heap_alloc_last (w.alloc (.cells #[.int .i64 v.x.re, .int .i64 v.x.im, .int .i64 v.x.den, .int .i64 v.y.re, .int .i64 v.y.im, .int .i64 v.y.den] 28)) (.cells (jc Z6) 28)
    rwa [World.size_alloc] at this
  have hB1 : Below w.heap.size w w1 := bstep (by exact below_) hb (by simp; omega)
  obtain ⟨⟨v0, v1, v2, v3, v4, v5⟩, q0, q1, q2, q3, q4, q5⟩ := blk_j hr1
  clear hb hr1 hc
  go_upto_region 4 with fail
  go_loopw [7, 8] (fun okv i wr => okv = .bool false ∧ i = .int .i64 0 ∧ wr = w1) (fun _ _ _ => 0)
  case atStart => exact ⟨rfl, rfl, rfl⟩
  case round =>
    obtain ⟨rfl, rfl, rfl⟩ := hrel
    go_wp2
    all_goals exact bodyPost_ret (v := jnb none) (by simp [results, Tryz.results35, go_sem, *]) rfl ⟨rfl, by exact below_⟩
set_option maxRecDepth 100000 in
set_option maxHeartbeats 20000000 in
theorem srun_some (s : ByteArray) (ps : List Pc) (v : Jn) (w : World) (hb : benchI s.data.toList = some ps) :
    Calls Tryz.prog 35 #[.string s, jnv v] w fun e w' => e = .returned (jnb (runI s.data.toList v)) ∧ Below w.heap.size w w' := by
  obtain ⟨R, hR⟩ : ∃ R, runI s.data.toList v = R := ⟨_, rfl⟩
  obtain ⟨W0, hW0, hv0, hr0, hB0, hz0⟩ : ∃ W, W = (w.alloc (.cells #[.int .i64 v.x.re, .int .i64 v.x.im, .int .i64 v.x.den, .int .i64 v.y.re, .int .i64 v.y.im, .int .i64 v.y.den] 28)).alloc (.cells #[.int .i64 0, .int .i64 0, .int .i64 0, .int .i64 0, .int .i64 0, .int .i64 0] 28) ∧ Blk W w.heap.size (jc v) 28 ∧ Blk W (w.heap.size + 1) (jc Z6) 28 ∧ Below w.heap.size w W ∧ W.heap.size = w.heap.size + 2 := by
    refine ⟨_, rfl, (Below.heap_alloc _ _ _ (by simp)).trans (heap_alloc_last w _), ?_, by exact below_, by simp⟩
    have := heap_alloc_last (w.alloc (.cells #[.int .i64 v.x.re, .int .i64 v.x.im, .int .i64 v.x.den, .int .i64 v.y.re, .int .i64 v.y.im, .int .i64 v.y.den] 28)) (.cells (jc Z6) 28)
    rwa [World.size_alloc] at this
  have hc : ∀ W, W.heap.size = w.heap.size + 2 → Calls Tryz.prog 62 #[.string s] W fun e w' => ∃ A len cap, e = .returned (.tuple #[.slice A len cap, .bool true]) ∧ Pcs 90 2 (w.heap.size + 2) (.slice A len cap) ps w' ∧ Below W.heap.size W w' := fun W hz =>
    (sbench_any s W).mono fun e w' ⟨A, len, cap, h1, h3, h4⟩ => ⟨A, len, cap, by rw [h1, hb]; rfl, by rw [← hz]; exact h3 ps hb, h4⟩
  have hok := (benchI_ok hb).2
  have hlen := (benchI_ok hb).1
  have hri := runI_some (v := v) hb
  rw [hR] at hri ⊢
  have HRI := Lib.hid hri
  clear hb hri hR
  go_enter Tryz.func35, Tryz.ntmps35
  go_upto_region 1 with fail
  rw [← hW0]
  clear hW0
  go_upto_region 2 with (go_at_call 62; (with_reducible refine (hc _ hz0).mono ?_); rintro e w1 ⟨A1, len1, cap1, rfl, hp, hb⟩)
  have hU : RU 90 2 w (.slice A1 len1 cap1) ps v w1 := ⟨bstep hB0 hb hB0.size, (hb.block _ (blk_lt hv0)).trans hv0, (hb.block _ (blk_lt hr0)).trans hr0, hp⟩
  clear hc hp hb hv0 hr0
  obtain ⟨⟨v0, v1, v2, v3, v4, v5⟩, -⟩ := blk_j hU.v
  obtain ⟨ok0, hok0⟩ : ∃ b, jvalid v = b := ⟨_, rfl⟩
  go_upto_region 3 with (go_at_call 63; (with_reducible refine (sjvalid_any v _).mono ?_); rw [hok0]; rintro e w2 ⟨rfl, hb⟩)
  have hU2 := hU.below hb
  have HOK0 := Lib.hid hok0
  obtain ⟨A0, cap0, hlv⟩ := hU2.p.slice
  simp only [Value.slice.injEq] at hlv
  obtain ⟨rfl, rfl, rfl⟩ := hlv
  clear hU hb v0 v1 v2 v3 v4 v5 hok0
  go_upto_region 4 with fail
  go_loopw [7, 8] (fun okv i wr => ∃ (k : Nat) (ok : Bool) (cur : Jn), k ≤ ps.length ∧ i = .int .i64 k ∧ okv = .bool ok ∧ Hid ((ok = true → jvalid v = true ∧ runL (ps.take k) v = some cur) ∧ (ok = false → R = none)) ∧ RU 90 2 w (.slice A1 ps.length cap1) ps cur wr) (fun _ i _ => ps.length - (intOf i).toNat)
  case atStart =>
    refine ⟨0, ok0, v, Nat.zero_le _, rfl, rfl, Lib.hid ⟨fun h => ⟨by rw [HOK0.out, h], rfl⟩, fun h => ?_⟩, hU2⟩
    have h1 := HRI.out
    rw [HOK0.out, h] at h1
    exact h1
  case round =>
    clear hU2
    obtain ⟨k, ok, cur, hk, rfl, rfl, hinv, hU⟩ := hrel
    have hzw := hU.B.size
    cases ok
    · have he := hinv.out.2 rfl
      have HE := Lib.hid he
      obtain ⟨⟨r0, r1, r2, r3, r4, r5⟩, q0, q1, q2, q3, q4, q5⟩ := blk_j hU.r
      have hBw := hU.B
      clear he hU hinv
      go_wp2
      all_goals exact bodyPost_ret (v := jnb none) (by simp [results, Tryz.results35, go_sem, *]) rfl ⟨by rw [HE.out], by exact below_⟩
    obtain ⟨hjv, hcur⟩ := hinv.out.1 rfl
    have HJ := Lib.hid hjv
    have HC := Lib.hid hcur
    clear hinv hjv hcur
    by_cases hkl : k < ps.length
    · obtain ⟨x, hx⟩ : ∃ x, ps[k]? = some x := ⟨_, List.getElem?_eq_getElem hkl⟩
      obtain ⟨g, cap, nv, hlv, hcap, hcm, hgb, hgl, c0, c1, hn, -⟩ := hU.p.at hx
      simp only [Value.slice.injEq, true_and] at hlv
      obtain ⟨rfl, rfl⟩ := hlv
      obtain ⟨g2, cap2, rfl, hn2⟩ := hn
      have hn : NumsAt wr (.slice (some ⟨g2, 0, none⟩) x.ns.length cap2) x.ns := ⟨g2, cap2, rfl, hn2⟩
      have hox := hok x (List.mem_of_getElem? hx)
      obtain ⟨m, fine, hm⟩ : ∃ m fine, (pcMat x).getD Z12 = m ∧ (pcMat x).isSome = fine := ⟨_, _, rfl, rfl⟩
      obtain ⟨nx, can, hnx⟩ : ∃ nx can, (mapplyI m cur).getD Z6 = nx ∧ (mapplyI m cur).isSome = can := ⟨_, _, rfl, rfl⟩
      have hst := srun_step hx HJ.out HC.out hm hnx
      have HM := Lib.hid hm
      have HN := Lib.hid hnx
      have HST := Lib.hid hst
      have hki : (k : Int) < ps.length := by omega
      have hkb : (k : Int) + 1 ≤ 9223372036854775807 := by omega
      clear hm hnx hst hn2 hx
      go_upto_region 7 with (go_at_call 64; (with_reducible refine (smat_m x (.slice (some ⟨g2, 0, none⟩) x.ns.length cap2) m fine _ hox hn HM).mono ?_); rintro e w3 ⟨rfl, hb⟩)
      obtain ⟨bM, hbM⟩ : ∃ b, b = w3.heap.size := ⟨_, rfl⟩
      obtain ⟨W3, hW3, hU3, hM3⟩ : ∃ W, W = w3.alloc (.cells #[.int .i64 m.a.re, .int .i64 m.a.im, .int .i64 m.a.den, .int .i64 m.b.re, .int .i64 m.b.im, .int .i64 m.b.den, .int .i64 m.c.re, .int .i64 m.c.im, .int .i64 m.c.den, .int .i64 m.d.re, .int .i64 m.d.im, .int .i64 m.d.den] 85) ∧ RU 90 2 w _ ps cur W ∧ Blk W bM (mtc m) 85 :=
        ⟨_, rfl, (hU.below hb).below ((Below.refl _ _).alloc (Nat.le_refl _) _), by rw [hbM]; exact heap_alloc_last w3 _⟩
      rw [← hW3, ← hbM]
      have hz3 : w.heap.size < W3.heap.size := blk_lt hU3.v
      obtain ⟨⟨v0, v1, v2, v3, v4, v5⟩, -⟩ := blk_j hU3.v
      obtain ⟨p0, p1, p2, p3, p4, p5, p6, p7, p8, p9, p10, p11⟩ := blk_mt hM3
      clear hU hn hb c0 c1 hW3 hbM
      go_upto_region 8 with (go_at_call 65; (with_reducible refine (smapply_m m cur nx can _ HN).mono ?_); rintro e w4 ⟨rfl, hb⟩)
      obtain ⟨bN, hbN⟩ : ∃ b, b = w4.heap.size := ⟨_, rfl⟩
      obtain ⟨W4, hW4, hU4, hN4⟩ : ∃ W, W = w4.alloc (.cells #[.int .i64 nx.x.re, .int .i64 nx.x.im, .int .i64 nx.x.den, .int .i64 nx.y.re, .int .i64 nx.y.im, .int .i64 nx.y.den] 28) ∧ RU 90 2 w _ ps cur W ∧ Blk W bN (jc nx) 28 :=
        ⟨_, rfl, (hU3.below hb).below ((Below.refl _ _).alloc (Nat.le_refl _) _), by rw [hbN]; exact heap_alloc_last w4 _⟩
      rw [← hW4, ← hbN]
      clear v0 v1 v2 v3 v4 v5 hb hU3 p0 p1 p2 p3 p4 p5 p6 p7 p8 p9 p10 p11 hW4 hbN hM3
      obtain ⟨⟨n0, n1, n2, n3, n4, n5⟩, -⟩ := blk_j hN4
      obtain ⟨⟨v0, v1, v2, v3, v4, v5⟩, q0, q1, q2, q3, q4, q5⟩ := blk_j hU4.v
      have hU5 := hU4.set nx
      have hz4 : w.heap.size < W4.heap.size := blk_lt hU4.v
      have HNEXT : Hid (((fine && can) = true → jvalid v = true ∧ runL (ps.take (k + 1)) v = some nx) ∧ ((fine && can) = false → R = none)) := Lib.hid ⟨fun h => ⟨HJ.out, HST.out.2 h⟩, fun h => by
        have h1 := HST.out.1
        rw [h, HJ.out, Bool.true_and] at h1
        have h2 := HRI.out
        rw [HJ.out, if_pos rfl] at h2
        rw [h2]
        refine runL_none_take (k := k + 1) ?_
        cases h3 : runL (ps.take (k + 1)) v with
        | none => rfl
        | some c => rw [h3] at h1; cases h1⟩
      clear hU4
      cases fine
      · go_wp2
        go_roundw
        case rel => exact ⟨k + 1, _, nx, by omega, by go_num, rfl, HNEXT, hU5⟩
        case measure => simp [intOf]; omega
      · go_wp2
        go_roundw
        case rel => exact ⟨k + 1, _, nx, by omega, by go_num, rfl, HNEXT, hU5⟩
        case measure => simp [intOf]; omega
    · obtain rfl : k = ps.length := by omega
      rw [List.take_length] at HC
      obtain ⟨⟨v0, v1, v2, v3, v4, v5⟩, -⟩ := blk_j hU.v
      obtain ⟨⟨r0, r1, r2, r3, r4, r5⟩, q0, q1, q2, q3, q4, q5⟩ := blk_j hU.r
      have hBw := hU.B
      have he : R = some cur := by
        rw [HRI.out, HJ.out, if_pos rfl]
        exact HC.out
      have HE := Lib.hid he
      clear he hU HRI HC
      go_wp2
      exact bodyPost_ret (v := jnb (some cur)) (by simp [results, Tryz.results35, go_sem, *]) rfl ⟨by rw [HE.out], by exact below_⟩
theorem srun_any (s : ByteArray) (v : Jn) (w : World) :
    Calls Tryz.prog 35 #[.string s, jnv v] w fun e w' => e = .returned (jnb (runI s.data.toList v)) ∧ Below w.heap.size w w' := by
  cases hb : benchI s.data.toList with
  | none =>
    have e : runI s.data.toList v = none := by unfold runI; rw [hb]; rfl
    rw [e]
    exact srun_none s v w hb
  | some ps => exact srun_some s ps v w hb
end Go.Proofs.YtkdggljioekkhaaGreatDoor
