/-
  Texts of this claim, joined: Ic; Id; Ie; Ig. Nothing is claimed here; the other texts of this claim use it.
-/
import Derived.Test.YtjbnkefeacineaaGreatDoorJd
import Derived.Test.YtjbnkefeacineaaGreatDoorJc
import Derived.Test.YtjbnkefeacineaaGreatDoorNa
import Derived.Test.YtjbnkefeacineaaGreatDoorIa
import Derived.Test.YtjbnkefeacineaaGreatDoorJh
import Derived.Test.YtjbnkefeacineaaGreatDoorJg
namespace Go.Proofs.YtjbnkefeacineaaGreatDoor
set_option linter.unusedSimpArgs false
set_option linter.unusedVariables false
section
open Go.RowKit
attribute [local go_sem ↓] Go.wp_at_zero Go.wp_at_succ
/-- What the loop over the words of a bench keeps (reference). -/
structure RBS (w : World) (gb : Nat) (ws : List (List UInt8)) (v : Value) (ps : List Pc) (W : World) : Prop where
  B : Below w.heap.size w W
  g : gb < W.heap.size
  t : ∀ (k : Nat) l, ws[k]? = some l → W.cell? ⟨gb, k, none⟩ = some (.string ⟨l.toArray⟩)
  p : Pcs 112 2 w.heap.size v ps W
  n : ∀ k, v.ownBlock = some k → k ≠ gb
section
variable {w W W' : World} {gb : Nat} {ws : List (List UInt8)} {v : Value} {ps : List Pc}
theorem RBS.below (h : RBS w gb ws v ps W) (hb : Below W.heap.size W W') : RBS w gb ws v ps W' :=
  ⟨bstep h.B hb h.B.size, Nat.lt_of_lt_of_le h.g hb.size, fun k l hk => (hb.cell (p := ⟨gb, k, none⟩) h.g).trans (h.t k l hk), h.p.below hb, h.n⟩
theorem RBS.grown (h : RBS w gb ws v ps W) (hg : W.grownBy W' v.ownBlock) {v' : Value} {ps' : List Pc} (hp : Pcs 112 2 w.heap.size v' ps' W') (hv : v'.ownBlock = v.ownBlock ∨ v'.ownBlock = some W.heap.size) : RBS w gb ws v' ps' W' := by
  have hlt := h.p.lt
  have hgl := h.g
  refine ⟨Below.grown h.B hg h.B.size (fun k e => (hlt k e).1), Nat.lt_of_lt_of_le h.g hg.size, fun k l hk => ?_, hp, fun k hk => ?_⟩
  · rw [World.cell?_of_block (hg.block gb h.g (fun e => h.n _ e.symm rfl))]
    exact h.t k l hk
  · rcases hv with hv | hv
    · exact h.n k (hv ▸ hk)
    · rw [hv] at hk
      have := Option.some.inj hk
      omega
end
theorem benchS_no {l : List UInt8} {ws : List (List UInt8)} (hl : l ≠ []) (h1 : cutL 32 l = ws) (h : allM pieceS ws = none) : benchS l = none := by
  unfold benchS
  rw [if_neg hl, h1, h]
  split <;> rfl
theorem benchS_yes {l : List UInt8} {ws : List (List UInt8)} {ps : List Pc} (hl : l ≠ []) (h3 : ¬ 300 < l.length) (h1 : cutL 32 l = ws) (h : allM pieceS ws = some ps) : (benchS l).isSome = decide (ps.length ≤ 12) ∧ ∀ qs, benchS l = some qs → qs = ps := by
  unfold benchS
  rw [if_neg hl, if_neg h3, h1, h, Option.bind_some]
  by_cases hp : ps.length ≤ 12
  · rw [if_pos hp]
    exact ⟨by simp [hp], fun qs e => (Option.some.inj e).symm⟩
  · rw [if_neg hp]
    exact ⟨by simp [hp], fun qs e => by cases e⟩
set_option maxHeartbeats 4000000 in
theorem sbench_nil (w : World) :
    Calls Tryz.prog 103 #[.string ⟨#[]⟩] w fun e w' => ∃ A len cap, e = .returned (.tuple #[.slice A len cap, .bool true]) ∧ Pcs 112 2 w.heap.size (.slice A len cap) [] w' ∧ Below w.heap.size w w' := by
  have hm := Pcs.made 112 2 w w.heap.size (Nat.le_refl _)
  go_enter Tryz.func103, Tryz.ntmps103
  go_wp2
  go_ret2
  exact ⟨_, _, _, rfl, hm, by exact below_⟩
set_option maxHeartbeats 4000000 in
theorem sbench_long (s : ByteArray) (w : World) (h : 300 < s.size) :
    Calls Tryz.prog 103 #[.string s] w fun e w' => ∃ A len cap, e = .returned (.tuple #[.slice A len cap, .bool false]) ∧ Below w.heap.size w w' := by
  have h3 : 300 < (s.size : Int) := by omega
  have hem : s.toList.isEmpty = false := by
    rw [ByteArray.toList_eq]
    cases hd : s.data.toList with
    | nil =>
      have := Lib.size_eq s
      rw [hd] at this
      simp only [List.length_nil] at this
      omega
    | cons _ _ => rfl
  go_enter Tryz.func103, Tryz.ntmps103
  go_wp2
  go_ret2
  exact ⟨_, _, _, rfl, by exact below_⟩
set_option maxHeartbeats 8000000 in
theorem sbench_cons (s : ByteArray) (l : List UInt8) (hl : s.data.toList = l) (hne : l ≠ []) (w : World) (hs : s.size ≤ 300) :
    Calls Tryz.prog 103 #[.string s] w fun e w' => ∃ A len cap, e = .returned (.tuple #[.slice A len cap, .bool (benchS l).isSome]) ∧ (∀ ps, benchS l = some ps → Pcs 112 2 w.heap.size (.slice A len cap) ps w') ∧ Below w.heap.size w w' := by
  have hsz : s.size = l.length := by rw [Lib.size_eq s, hl]
  have hem : s.toList.isEmpty = false := by rw [ByteArray.toList_eq, hl]; simpa using hne
  have h3 : ¬ 300 < (s.size : Int) := by omega
  have hll : l.length ≤ 300 := by omega
  obtain ⟨ws, hws⟩ : ∃ ws, cutL 32 l = ws := ⟨_, rfl⟩
  have hwl := cutL_len 32 l
  have hwn := cutL_ne 32 l
  rw [hws] at hwl hwn
  have hcut : ∀ W : World, Calls Tryz.prog 125 #[.string s, .int .u8 32] W fun e w' => ∃ gb cap, e = .returned (.slice (some ⟨gb, 0, none⟩) ws.length cap) ∧ W.heap.size ≤ gb ∧ gb < w'.heap.size ∧ Hid (∀ (k : Nat) l, ws[k]? = some l → w'.cell? ⟨gb, k, none⟩ = some (.string ⟨l.toArray⟩)) ∧ Below W.heap.size W w' := fun W => by
    have h := scut_any l 32 (by omega) W
    rw [hws, ← hl, bytes_mk s] at h
    refine h.mono ?_
    rintro e w' ⟨v, rfl, hO, hb⟩
    obtain ⟨g, cap, rfl, h1, h2, h3, h4, h5⟩ := hO.at (List.length_pos_iff.2 hwn)
    exact ⟨g, cap, rfl, h3, h4, Lib.hid h5, hb⟩
  have hp0 := Pcs.made 112 2 w w.heap.size (Nat.le_refl _)
  obtain ⟨W0, hW0, hR0⟩ : ∃ W, W = w.alloc (.cells #[] 112) ∧ ∀ (W1 : World) (gb : Nat), Below W.heap.size W W1 → W.heap.size ≤ gb → gb < W1.heap.size → (∀ (k : Nat) l, ws[k]? = some l → W1.cell? ⟨gb, k, none⟩ = some (.string ⟨l.toArray⟩)) → RBS w gb ws (.slice (some ⟨w.heap.size, 0, none⟩) 0 0) [] W1 := by
    refine ⟨_, rfl, fun W1 gb hb hg1 hg2 ht => ?_⟩
    refine ⟨bstep (by exact below_) hb (by simp), hg2, ht, hp0.below hb, fun k hk => ?_⟩
    have := Option.some.inj hk
    simp only [World.size_alloc] at this hg1
    omega
  have HW := Lib.hid hws
  have HL := Lib.hid hwl
  have HNE := Lib.hid hne
  have HLL := Lib.hid hll
  clear hl hws hwl hwn hne hp0 hll
  go_enter Tryz.func103, Tryz.ntmps103
  go_upto_region 5 with fail
  rw [← hW0]
  clear hW0
  go_upto_region 6 with (go_at_call 125; (with_reducible refine (hcut _).mono ?_); rintro e w1 ⟨gb, cap, rfl, hg1, hg2, ht, hb⟩)
  have hR := hR0 w1 gb hb hg1 hg2 ht.out
  clear hR0 hb hg1 hg2 ht hcut
  have hW0 := hR.B.size
  go_loopw [4, 6] (fun v i wr => ∃ (k : Nat) (ps : List Pc), k ≤ ws.length ∧ i = .int .i64 k ∧ Hid (allM pieceS (ws.take k) = some ps ∧ ps.length = k) ∧ RBS w gb ws v ps wr) (fun _ i _ => ws.length - (intOf i).toNat)
  case atStart => exact ⟨0, [], Nat.zero_le _, rfl, Lib.hid ⟨rfl, rfl⟩, hR⟩
  case round =>
    clear hR
    obtain ⟨k, ps, hk, rfl, hall, hR⟩ := hrel
    have hzw := hR.B.size
    obtain ⟨A0, cap0, hv0⟩ := hR.p.slice
    subst hv0
    by_cases hkl : k < ws.length
    · obtain ⟨x, hx⟩ : ∃ x, ws[k]? = some x := ⟨_, List.getElem?_eq_getElem hkl⟩
      have hwc := hR.t k x hx
      have hll : x.length ≤ 1000000 := by
        have h1 : x.length ≤ (ws.map List.length).sum := mem_sum (List.mem_of_getElem? hx)
        have h2 := HL.out
        have h3 := HLL.out
        omega
      have hkb : (k : Int) + 1 ≤ 9223372036854775807 := by have := HL.out; have := HLL.out; omega
      obtain ⟨ok, hok⟩ : ∃ ok, (pieceS x).isSome = ok := ⟨_, rfl⟩
      have HOK := Lib.hid hok
      have HK := Lib.hid hx
      have hki : (k : Int) < ws.length := by omega
      have hcon : ∀ W, Calls Tryz.prog 126 #[.string ⟨x.toArray⟩] W fun e w' => ∃ kk A len cap, e = .returned (.tuple #[.agg #[.int .u8 kk, .slice A len cap], .bool ok]) ∧
        Hid (∀ y, pieceS x = some y → kk = y.k.toNat ∧ NumsAt w' (.slice A len cap) y.ns ∧ ∀ k, (Value.slice A len cap).ownBlock = some k → W.heap.size ≤ k) ∧ Below W.heap.size W w' := fun W => by
        have h := sone_l x W hll
        rw [hok] at h
        exact h
      clear hok hx
      go_upto_region 11 with (go_at_call 126; (with_reducible refine (hcon _).mono ?_); rintro e w2 ⟨kk, A, len2, cap2, rfl, hq, hb⟩)
      obtain ⟨bp, hbp⟩ : ∃ b, b = w2.heap.size := ⟨_, rfl⟩
      have hR2 := hR.below hb
      have HLT := Lib.hid hR.p.lt
      have hzz := hb.size
      obtain ⟨W2, hW2, hR3, hP3, hz3, hbw⟩ : ∃ W, W = w2.alloc (.cells #[.int .u8 kk, .slice A len2 cap2] 112) ∧ RBS w gb ws (.slice A0 ps.length cap0) ps W ∧ Blk W bp #[.int .u8 kk, .slice A len2 cap2] 112 ∧ w2.heap.size ≤ W.heap.size ∧ Below w2.heap.size w2 W :=
        ⟨_, rfl, hR2.below ((Below.refl _ _).alloc (Nat.le_refl _) _), by rw [hbp]; exact heap_alloc_last w2 _, by simp, (Below.refl _ _).alloc (Nat.le_refl _) _⟩
      rw [← hW2, ← hbp]
      clear hW2 hb hR hwc hR2 hcon hbp
      cases ok
      · have he := benchS_no HNE.out HW.out (allM_none HK.out (by have := HOK.out; simpa using this))
        have HE := Lib.hid he
        have hBq := hR3.B
        clear he hR3 hq hP3
        go_wp2
        go_ret2
        exact ⟨_, _, _, (by rw [HE.out]; rfl), (fun ps h => by rw [HE.out] at h; cases h), (by exact below_)⟩
      · obtain ⟨y, hy⟩ := Option.isSome_iff_exists.1 HOK.out
        obtain ⟨hq1, hq2, hq3⟩ := hq.out y hy
        subst hq1
        have HY := Lib.hid hy
        clear hy hq
        have hn3 := hq2.below hbw
        have hqv : ∀ kq, (Value.slice A len2 cap2).ownBlock = some kq → (Value.slice A0 ps.length cap0).ownBlock ≠ some kq ∧ w.heap.size ≤ kq := fun kq hkq => ⟨fun e => by have h1 := (HLT.out kq e).2; have h2 := hq3 kq hkq; omega, by have h2 := hq3 kq hkq; omega⟩
        have hkl12 := hall.out.2
        have hR4 := hR3.below ((Below.refl _ _).alloc (Nat.le_refl _) (.cells #[.int .u8 y.k.toNat, .slice A len2 cap2] 112))
        have hn4 := hn3.below ((Below.refl _ _).alloc (Nat.le_refl _) (.cells #[.int .u8 y.k.toNat, .slice A len2 cap2] 112))
        have hB4 := hR4.B.size
        have HALL := Lib.hid hkl12
        have hlen : ps.length + 1 < 4000000 := by have := HL.out; have := HLL.out; omega
        have p0 : W2.cell? ⟨bp, 0, none⟩ = some (.int .u8 y.k.toNat) := by simp [World.cell?, hP3]
        have p1 : W2.cell? ⟨bp, 1, none⟩ = some (.slice A len2 cap2) := by simp [World.cell?, hP3]
        clear hq2 hq3 hkl12 hP3
        go_wp2_with (at_builtin; refine wpList_appL rfl (.tmp 36) (.tmp 38) rfl w.heap.size _ ps _ (by rfl) hR4.p W2.heap.size 1 (by rfl) y (.slice A len2 cap2) (World.cell?_alloc_at _ _ _ _ rfl) (World.cell?_alloc_at _ _ _ _ rfl) hn4 hqv hlen hB4 ?_; intro v2 w3 hO3 hg3 hv3; refine Hid.out ?_)
        refine Lib.hid ?_
        have hR5 := hR4.grown hg3 hO3 hv3
        clear hO3 hg3 hv3 hR4 hR3 hn4 hn3 hqv hB4 p0 p1
        go_wp2
        go_roundw
        case rel => exact ⟨k + 1, ps ++ [y], by omega, by go_num, Lib.hid ⟨allM_take hall.out.1 HK.out HY.out, by rw [List.length_append, HALL.out]; rfl⟩, hR5⟩
        case measure => simp [intOf]; omega
    · obtain rfl : k = ws.length := by omega
      rw [List.take_length] at hall
      obtain ⟨h1, h2⟩ := benchS_yes HNE.out (by have := HLL.out; omega) HW.out hall.out.1
      have H1 := Lib.hid h1
      have H2 := Lib.hid h2
      have hpl := hall.out.2
      have hBq := hR.B
      have hRp := hR.p
      clear h1 h2
      go_wp2
      go_ret2
      exact ⟨A0, ps.length, cap0, (by rw [H1.out]; simp; omega), (fun ps' h => by rw [H2.out ps' h]; exact hRp), hBq⟩
end
section
open Go.RowKit
attribute [local go_sem ↓] Go.wp_at_zero Go.wp_at_succ
theorem blk_mt {W : World} {b : Nat} {m : Mt} {ty : TypeId} (h : Blk W b (mtc m) ty) : W.cell? ⟨b, 0, none⟩ = some (.int .i64 m.a.re) ∧ W.cell? ⟨b, 1, none⟩ = some (.int .i64 m.a.im) ∧ W.cell? ⟨b, 2, none⟩ = some (.int .i64 m.a.den) ∧ W.cell? ⟨b, 3, none⟩ = some (.int .i64 m.b.re) ∧ W.cell? ⟨b, 4, none⟩ = some (.int .i64 m.b.im) ∧ W.cell? ⟨b, 5, none⟩ = some (.int .i64 m.b.den) ∧ W.cell? ⟨b, 6, none⟩ = some (.int .i64 m.c.re) ∧ W.cell? ⟨b, 7, none⟩ = some (.int .i64 m.c.im) ∧ W.cell? ⟨b, 8, none⟩ = some (.int .i64 m.c.den) ∧ W.cell? ⟨b, 9, none⟩ = some (.int .i64 m.d.re) ∧ W.cell? ⟨b, 10, none⟩ = some (.int .i64 m.d.im) ∧ W.cell? ⟨b, 11, none⟩ = some (.int .i64 m.d.den) := by
  refine ⟨?_, ?_, ?_, ?_, ?_, ?_, ?_, ?_, ?_, ?_, ?_, ?_⟩ <;> simp [World.cell?, h, mtc]
/-- One more piece, of a run that stops where something is none. -/
theorem srun_step {ps : List Pc} {v cur m1 : Jn} {m : Mt} {k : Nat} {x : Pc} {fine can : Bool} (hk : ps[k]? = some x) (h1 : jvalid v = true) (h2 : runL (ps.take k) v = some cur)
    (hm : (pcMat x).getD Z12 = m ∧ (pcMat x).isSome = fine) (hn : (mapplyI m cur).getD Z6 = m1 ∧ (mapplyI m cur).isSome = can) :
    (fine && can) = (jvalid v && (runL (ps.take (k + 1)) v).isSome) ∧ ((fine && can) = true → runL (ps.take (k + 1)) v = some m1) := by
  have h := run_step (ok := true) hk (by rw [h1, h2]; rfl) (fun _ => h2) hm hn
  simpa using h
theorem smat_m (x : Pc) (nv : Value) (m : Mt) (fine : Bool) (w : World) (ho : pcOk x.k x.ns = true) (hn : NumsAt w nv x.ns) (hm : Hid ((pcMat x).getD Z12 = m ∧ (pcMat x).isSome = fine)) :
    Calls Tryz.prog 105 #[.agg #[.int .u8 x.k.toNat, nv]] w fun e w' => e = .returned (.tuple #[mtv m, .bool fine]) ∧ Below w.heap.size w w' := by
  rw [← hm.out.1, ← hm.out.2]; exact smat_any x nv w ho hn
theorem smapply_m (m : Mt) (v m1 : Jn) (can : Bool) (w : World) (hn : Hid ((mapplyI m v).getD Z6 = m1 ∧ (mapplyI m v).isSome = can)) :
    Calls Tryz.prog 106 #[mtv m, jnv v] w fun e w' => e = .returned (.tuple #[jnv m1, .bool can]) ∧ Below w.heap.size w w' := by
  rw [← hn.out.1, ← hn.out.2]; exact smapply_any m v w
/-- l7Bench, whatever it reads. -/
theorem sbench_any (s : ByteArray) (w : World) :
    Calls Tryz.prog 103 #[.string s] w fun e w' => ∃ A len cap, e = .returned (.tuple #[.slice A len cap, .bool (benchI s.data.toList).isSome]) ∧ (∀ ps, benchI s.data.toList = some ps → Pcs 112 2 w.heap.size (.slice A len cap) ps w') ∧ Below w.heap.size w w' := by
  rw [bench_eq]
  by_cases h : s.data.toList = []
  · have h0 : s = ⟨#[]⟩ := by
      have := bytes_mk s
      rw [h] at this
      exact this.symm
    subst h0
    exact (sbench_nil w).mono fun e w' ⟨A, len, cap, h1, h2, h3⟩ => ⟨A, len, cap, h1, (fun ps h => by obtain rfl := Option.some.inj h; exact h2), h3⟩
  · by_cases h3 : 300 < s.size
    · have hn : benchS s.data.toList = none := by
        unfold benchS
        rw [if_neg h, if_pos (by rw [← Lib.size_eq]; exact h3)]
      rw [hn]
      exact (sbench_long s w h3).mono fun e w' ⟨A, len, cap, h1, h2⟩ => ⟨A, len, cap, h1, (fun ps h => by cases h), h2⟩
    · exact sbench_cons s _ rfl h w (by omega)
set_option maxRecDepth 100000 in
set_option maxHeartbeats 8000000 in
theorem srun_none (s : ByteArray) (v : Jn) (w : World) (hb : benchI s.data.toList = none) :
    Calls Tryz.prog 71 #[.string s, jnv v] w fun e w' => e = .returned (jnb none) ∧ Below w.heap.size w w' := by
  have hc : ∀ W, Calls Tryz.prog 103 #[.string s] W fun e w' => ∃ A len cap, e = .returned (.tuple #[.slice A len cap, .bool false]) ∧ Below W.heap.size W w' := fun W =>
    (sbench_any s W).mono fun e w' ⟨A, len, cap, h1, _, h4⟩ => ⟨A, len, cap, by rw [h1, hb]; rfl, h4⟩
  clear hb
  go_enter Tryz.func71, Tryz.ntmps71
  go_upto_region 2 with (first | (go_at_call 103; (with_reducible refine (hc _).mono ?_); rintro e w1 ⟨A, len, cap, rfl, hb⟩))
  have hr1 : Blk w1 (w.heap.size + 1) (jc Z6) 26 := by
    refine (hb.block _ (by simp)).trans ?_
    have := heap_alloc_last (w.alloc (.cells #[.int .i64 v.x.re, .int .i64 v.x.im, .int .i64 v.x.den, .int .i64 v.y.re, .int .i64 v.y.im, .int .i64 v.y.den] 26)) (.cells (jc Z6) 26)
    rwa [World.size_alloc] at this
  have hB1 : Below w.heap.size w w1 := bstep (by exact below_) hb (by simp; omega)
  obtain ⟨⟨v0, v1, v2, v3, v4, v5⟩, q0, q1, q2, q3, q4, q5⟩ := blk_j hr1
  clear hb hr1 hc
  go_upto_region 4 with fail
  go_loopw [7, 8] (fun okv i wr => okv = .bool false ∧ i = .int .i64 0 ∧ wr = w1) (fun _ _ _ => 0)
  case atStart => exact ⟨rfl, rfl, rfl⟩
  case round =>
    obtain ⟨rfl, rfl, rfl⟩ := hrel
    go_wp2
    all_goals exact bodyPost_ret (v := jnb none) (by simp [results, Tryz.results71, go_sem, *]) rfl ⟨rfl, by exact below_⟩
set_option maxRecDepth 100000 in
set_option maxHeartbeats 20000000 in
theorem srun_some (s : ByteArray) (ps : List Pc) (v : Jn) (w : World) (hb : benchI s.data.toList = some ps) :
    Calls Tryz.prog 71 #[.string s, jnv v] w fun e w' => e = .returned (jnb (runI s.data.toList v)) ∧ Below w.heap.size w w' := by
  obtain ⟨R, hR⟩ : ∃ R, runI s.data.toList v = R := ⟨_, rfl⟩
  obtain ⟨W0, hW0, hv0, hr0, hB0, hz0⟩ : ∃ W, W = (w.alloc (.cells #[.int .i64 v.x.re, .int .i64 v.x.im, .int .i64 v.x.den, .int .i64 v.y.re, .int .i64 v.y.im, .int .i64 v.y.den] 26)).alloc (.cells #[.int .i64 0, .int .i64 0, .int .i64 0, .int .i64 0, .int .i64 0, .int .i64 0] 26) ∧ Blk W w.heap.size (jc v) 26 ∧ Blk W (w.heap.size + 1) (jc Z6) 26 ∧ Below w.heap.size w W ∧ W.heap.size = w.heap.size + 2 := by
    refine ⟨_, rfl, (Below.heap_alloc _ _ _ (by simp)).trans (heap_alloc_last w _), ?_, by exact below_, by simp⟩
    have := heap_alloc_last (w.alloc (.cells #[.int .i64 v.x.re, .int .i64 v.x.im, .int .i64 v.x.den, .int .i64 v.y.re, .int .i64 v.y.im, .int .i64 v.y.den] 26)) (.cells (jc Z6) 26)
    rwa [World.size_alloc] at this
  have hc : ∀ W, W.heap.size = w.heap.size + 2 → Calls Tryz.prog 103 #[.string s] W fun e w' => ∃ A len cap, e = .returned (.tuple #[.slice A len cap, .bool true]) ∧ Pcs 112 2 (w.heap.size + 2) (.slice A len cap) ps w' ∧ Below W.heap.size W w' := fun W hz =>
    (sbench_any s W).mono fun e w' ⟨A, len, cap, h1, h3, h4⟩ => ⟨A, len, cap, by rw [h1, hb]; rfl, by rw [← hz]; exact h3 ps hb, h4⟩
  have hok := (benchI_ok hb).2
  have hlen := (benchI_ok hb).1
  have hri := runI_some (v := v) hb
  rw [hR] at hri ⊢
  have HRI := Lib.hid hri
  clear hb hri hR
  go_enter Tryz.func71, Tryz.ntmps71
  go_upto_region 1 with fail
  rw [← hW0]
  clear hW0
  go_upto_region 2 with (go_at_call 103; (with_reducible refine (hc _ hz0).mono ?_); rintro e w1 ⟨A1, len1, cap1, rfl, hp, hb⟩)
  have hU : RU 112 2 w (.slice A1 len1 cap1) ps v w1 := ⟨bstep hB0 hb hB0.size, (hb.block _ (blk_lt hv0)).trans hv0, (hb.block _ (blk_lt hr0)).trans hr0, hp⟩
  clear hc hp hb hv0 hr0
  obtain ⟨⟨v0, v1, v2, v3, v4, v5⟩, -⟩ := blk_j hU.v
  obtain ⟨ok0, hok0⟩ : ∃ b, jvalid v = b := ⟨_, rfl⟩
  go_upto_region 3 with (go_at_call 104; (with_reducible refine (sjvalid_any v _).mono ?_); rw [hok0]; rintro e w2 ⟨rfl, hb⟩)
  have hU2 := hU.below hb
  have HOK0 := Lib.hid hok0
  obtain ⟨A0, cap0, hlv⟩ := hU2.p.slice
  simp only [Value.slice.injEq] at hlv
  obtain ⟨rfl, rfl, rfl⟩ := hlv
  clear hU hb v0 v1 v2 v3 v4 v5 hok0
  go_upto_region 4 with fail
  go_loopw [7, 8] (fun okv i wr => ∃ (k : Nat) (ok : Bool) (cur : Jn), k ≤ ps.length ∧ i = .int .i64 k ∧ okv = .bool ok ∧ Hid ((ok = true → jvalid v = true ∧ runL (ps.take k) v = some cur) ∧ (ok = false → R = none)) ∧ RU 112 2 w (.slice A1 ps.length cap1) ps cur wr) (fun _ i _ => ps.length - (intOf i).toNat)
  case atStart =>
    refine ⟨0, ok0, v, Nat.zero_le _, rfl, rfl, Lib.hid ⟨fun h => ⟨by rw [HOK0.out, h], rfl⟩, fun h => ?_⟩, hU2⟩
    have h1 := HRI.out
    rw [HOK0.out, h] at h1
    exact h1
  case round =>
    clear hU2
    obtain ⟨k, ok, cur, hk, rfl, rfl, hinv, hU⟩ := hrel
    have hzw := hU.B.size
    cases ok
    · have he := hinv.out.2 rfl
      have HE := Lib.hid he
      obtain ⟨⟨r0, r1, r2, r3, r4, r5⟩, q0, q1, q2, q3, q4, q5⟩ := blk_j hU.r
      have hBw := hU.B
      clear he hU hinv
      go_wp2
      all_goals exact bodyPost_ret (v := jnb none) (by simp [results, Tryz.results71, go_sem, *]) rfl ⟨by rw [HE.out], by exact below_⟩
    obtain ⟨hjv, hcur⟩ := hinv.out.1 rfl
    have HJ := Lib.hid hjv
    have HC := Lib.hid hcur
    clear hinv hjv hcur
    by_cases hkl : k < ps.length
    · obtain ⟨x, hx⟩ : ∃ x, ps[k]? = some x := ⟨_, List.getElem?_eq_getElem hkl⟩
      obtain ⟨g, cap, nv, hlv, hcap, hcm, hgb, hgl, c0, c1, hn, -⟩ := hU.p.at hx
      simp only [Value.slice.injEq, true_and] at hlv
      obtain ⟨rfl, rfl⟩ := hlv
      obtain ⟨g2, cap2, rfl, hn2⟩ := hn
      have hn : NumsAt wr (.slice (some ⟨g2, 0, none⟩) x.ns.length cap2) x.ns := ⟨g2, cap2, rfl, hn2⟩
      have hox := hok x (List.mem_of_getElem? hx)
      obtain ⟨m, fine, hm⟩ : ∃ m fine, (pcMat x).getD Z12 = m ∧ (pcMat x).isSome = fine := ⟨_, _, rfl, rfl⟩
      obtain ⟨nx, can, hnx⟩ : ∃ nx can, (mapplyI m cur).getD Z6 = nx ∧ (mapplyI m cur).isSome = can := ⟨_, _, rfl, rfl⟩
      have hst := srun_step hx HJ.out HC.out hm hnx
      have HM := Lib.hid hm
      have HN := Lib.hid hnx
      have HST := Lib.hid hst
      have hki : (k : Int) < ps.length := by omega
      have hkb : (k : Int) + 1 ≤ 9223372036854775807 := by omega
      clear hm hnx hst hn2 hx
      go_upto_region 7 with (go_at_call 105; (with_reducible refine (smat_m x (.slice (some ⟨g2, 0, none⟩) x.ns.length cap2) m fine _ hox hn HM).mono ?_); rintro e w3 ⟨rfl, hb⟩)
      obtain ⟨bM, hbM⟩ : ∃ b, b = w3.heap.size := ⟨_, rfl⟩
      obtain ⟨W3, hW3, hU3, hM3⟩ : ∃ W, W = w3.alloc (.cells #[.int .i64 m.a.re, .int .i64 m.a.im, .int .i64 m.a.den, .int .i64 m.b.re, .int .i64 m.b.im, .int .i64 m.b.den, .int .i64 m.c.re, .int .i64 m.c.im, .int .i64 m.c.den, .int .i64 m.d.re, .int .i64 m.d.im, .int .i64 m.d.den] 92) ∧ RU 112 2 w _ ps cur W ∧ Blk W bM (mtc m) 92 :=
        ⟨_, rfl, (hU.below hb).below ((Below.refl _ _).alloc (Nat.le_refl _) _), by rw [hbM]; exact heap_alloc_last w3 _⟩
      rw [← hW3, ← hbM]
      have hz3 : w.heap.size < W3.heap.size := blk_lt hU3.v
      obtain ⟨⟨v0, v1, v2, v3, v4, v5⟩, -⟩ := blk_j hU3.v
      obtain ⟨p0, p1, p2, p3, p4, p5, p6, p7, p8, p9, p10, p11⟩ := blk_mt hM3
      clear hU hn hb c0 c1 hW3 hbM
      go_upto_region 8 with (go_at_call 106; (with_reducible refine (smapply_m m cur nx can _ HN).mono ?_); rintro e w4 ⟨rfl, hb⟩)
      obtain ⟨bN, hbN⟩ : ∃ b, b = w4.heap.size := ⟨_, rfl⟩
      obtain ⟨W4, hW4, hU4, hN4⟩ : ∃ W, W = w4.alloc (.cells #[.int .i64 nx.x.re, .int .i64 nx.x.im, .int .i64 nx.x.den, .int .i64 nx.y.re, .int .i64 nx.y.im, .int .i64 nx.y.den] 26) ∧ RU 112 2 w _ ps cur W ∧ Blk W bN (jc nx) 26 :=
        ⟨_, rfl, (hU3.below hb).below ((Below.refl _ _).alloc (Nat.le_refl _) _), by rw [hbN]; exact heap_alloc_last w4 _⟩
      rw [← hW4, ← hbN]
      clear v0 v1 v2 v3 v4 v5 hb hU3 p0 p1 p2 p3 p4 p5 p6 p7 p8 p9 p10 p11 hW4 hbN hM3
      obtain ⟨⟨n0, n1, n2, n3, n4, n5⟩, -⟩ := blk_j hN4
      obtain ⟨⟨v0, v1, v2, v3, v4, v5⟩, q0, q1, q2, q3, q4, q5⟩ := blk_j hU4.v
      have hU5 := hU4.set nx
      have hz4 : w.heap.size < W4.heap.size := blk_lt hU4.v
      have HNEXT : Hid (((fine && can) = true → jvalid v = true ∧ runL (ps.take (k + 1)) v = some nx) ∧ ((fine && can) = false → R = none)) := Lib.hid ⟨fun h => ⟨HJ.out, HST.out.2 h⟩, fun h => by
        have h1 := HST.out.1
        rw [h, HJ.out, Bool.true_and] at h1
        have h2 := HRI.out
        rw [HJ.out, if_pos rfl] at h2
        rw [h2]
        refine runL_none_take (k := k + 1) ?_
        cases h3 : runL (ps.take (k + 1)) v with
        | none => rfl
        | some c => rw [h3] at h1; cases h1⟩
      clear hU4
      cases fine
      · go_wp2
        go_roundw
        case rel => exact ⟨k + 1, _, nx, by omega, by go_num, rfl, HNEXT, hU5⟩
        case measure => simp [intOf]; omega
      · go_wp2
        go_roundw
        case rel => exact ⟨k + 1, _, nx, by omega, by go_num, rfl, HNEXT, hU5⟩
        case measure => simp [intOf]; omega
    · obtain rfl : k = ps.length := by omega
      rw [List.take_length] at HC
      obtain ⟨⟨v0, v1, v2, v3, v4, v5⟩, -⟩ := blk_j hU.v
      obtain ⟨⟨r0, r1, r2, r3, r4, r5⟩, q0, q1, q2, q3, q4, q5⟩ := blk_j hU.r
      have hBw := hU.B
      have he : R = some cur := by
        rw [HRI.out, HJ.out, if_pos rfl]
        exact HC.out
      have HE := Lib.hid he
      clear he hU HRI HC
      go_wp2
      exact bodyPost_ret (v := jnb (some cur)) (by simp [results, Tryz.results71, go_sem, *]) rfl ⟨by rw [HE.out], by exact below_⟩
theorem srun_any (s : ByteArray) (v : Jn) (w : World) :
    Calls Tryz.prog 71 #[.string s, jnv v] w fun e w' => e = .returned (jnb (runI s.data.toList v)) ∧ Below w.heap.size w w' := by
  cases hb : benchI s.data.toList with
  | none =>
    have e : runI s.data.toList v = none := by unfold runI; rw [hb]; rfl
    rw [e]
    exact srun_none s v w hb
  | some ps => exact srun_some s ps v w hb
end
section
open Go.RowKit
attribute [local go_sem ↓] Go.wp_at_zero Go.wp_at_succ
theorem srun_m (s : ByteArray) (v X : Jn) (p : Bool) (w : World) (e : Hid ((runI s.data.toList v).getD Z6 = X ∧ (runI s.data.toList v).isSome = p)) :
    Calls Tryz.prog 71 #[.string s, jnv v] w fun e w' => e = .returned (.tuple #[jnv X, .bool p]) ∧ Below w.heap.size w w' := by
  rw [← e.out.1, ← e.out.2]; exact srun_any s v w
theorem sjtimes_m (a X : Jn) (c : Fr) (p : Bool) (w : World) (e : Hid ((jtimesI a c).getD Z6 = X ∧ (jtimesI a c).isSome = p)) :
    Calls Tryz.prog 73 #[jnv a, frv c] w fun e w' => e = .returned (.tuple #[jnv X, .bool p]) ∧ Below w.heap.size w w' := by
  rw [← e.out.1, ← e.out.2]; exact sjtimes_any a c w
theorem sjadd_m (a b X : Jn) (p : Bool) (w : World) (e : Hid ((jaddI a b).getD Z6 = X ∧ (jaddI a b).isSome = p)) :
    Calls Tryz.prog 74 #[jnv a, jnv b] w fun e w' => e = .returned (.tuple #[jnv X, .bool p]) ∧ Below w.heap.size w w' := by
  rw [← e.out.1, ← e.out.2]; exact sjadd_any a b w
theorem sphase_m (k : Int) (F : Fr) (w : World) (h0 : 0 ≤ k) (h1 : k ≤ 3) (e : Hid (phF k = F)) :
    Calls Tryz.prog 72 #[.int .i64 k] w fun e w' => e = .returned (frv F) ∧ Below w.heap.size w w' := by
  rw [← e.out]; exact sphase_any k w h0 h1
theorem l6in_o (n lo hi : Int) (b : Bool) (w : World) (h : inB n lo hi = b) : Calls Tryz.prog 70 #[.int .i64 n, .int .i64 lo, .int .i64 hi] w fun e w' => e = .returned (.bool b) ∧ w' = w := by
  cases b
  · exact l6in_f n lo hi w h
  · exact l6in_t n lo hi w h
/-- What the reference's calls make, put together. -/
theorem portI_go {a b : List UInt8} {k : Int} {v X Y Z S O : Jn} {s p q r t u : Bool} {F : Fr} (hk : inB k 0 3 = true) (hX : (runI a v).getD Z6 = X ∧ (runI a v).isSome = p) (hY : (runI b v).getD Z6 = Y ∧ (runI b v).isSome = q)
    (hF : phF (if s then (k + 2) % 4 else k) = F) (hZ : (jtimesI Y F).getD Z6 = Z ∧ (jtimesI Y F).isSome = r) (hS : (jaddI X Z).getD Z6 = S ∧ (jaddI X Z).isSome = t) (hO : (jtimesI S ⟨1, 0, 2⟩).getD Z6 = O ∧ (jtimesI S ⟨1, 0, 2⟩).isSome = u) :
    portI a b k v s = if p && (q && (r && (t && u))) then some O else none := by
  unfold portI
  rw [if_pos hk]
  cases h1 : runI a v with
  | none => rw [h1] at hX; obtain ⟨-, rfl⟩ := hX; rfl
  | some x =>
    rw [h1] at hX
    obtain ⟨e1, rfl⟩ := hX
    obtain rfl : x = X := e1
    cases h2 : runI b v with
    | none => rw [h2] at hY; obtain ⟨-, rfl⟩ := hY; rfl
    | some y =>
      rw [h2] at hY
      obtain ⟨e2, rfl⟩ := hY
      obtain rfl : y = Y := e2
      rw [Option.bind_some, Option.bind_some, hF]
      cases h3 : jtimesI y F with
      | none => rw [h3] at hZ; obtain ⟨-, rfl⟩ := hZ; rfl
      | some z =>
        rw [h3] at hZ
        obtain ⟨e3, rfl⟩ := hZ
        obtain rfl : z = Z := e3
        rw [Option.bind_some]
        cases h4 : jaddI x z with
        | none => rw [h4] at hS; obtain ⟨-, rfl⟩ := hS; rfl
        | some c =>
          rw [h4] at hS
          obtain ⟨e4, rfl⟩ := hS
          obtain rfl : c = S := e4
          rw [Option.bind_some]
          cases h5 : jtimesI c ⟨1, 0, 2⟩ with
          | none => rw [h5] at hO; obtain ⟨-, rfl⟩ := hO; rfl
          | some d =>
            rw [h5] at hO
            obtain ⟨e5, rfl⟩ := hO
            obtain rfl : d = O := e5
            rfl
set_option maxRecDepth 100000 in
set_option maxHeartbeats 4000000 in
theorem sport_no (a b : ByteArray) (k : Int) (v : Jn) (s : Bool) (w : World) (hk : inB k 0 3 = false) :
    Calls Tryz.prog 30 #[.string a, .string b, .int .i64 k, jnv v, .bool s] w fun e w' => e = .returned (jnb none) ∧ Below w.heap.size w w' := by
  go_enter Tryz.func30, Tryz.ntmps30
  go_wp2_with (first | (go_at_call 70; refine (l6in_o _ _ _ _ _ hk).mono ?_; rintro e w1 ⟨rfl, hw⟩; obtain rfl := hw.symm))
  exact bodyPost_ret (v := jnb none) (by simp [results, Tryz.results30, go_sem, *]) rfl ⟨rfl, by exact below_⟩
set_option maxRecDepth 100000 in
set_option maxHeartbeats 8000000 in
theorem sport_f (a b : ByteArray) (k : Int) (v : Jn) (w : World) (hk : inB k 0 3 = true) :
    Calls Tryz.prog 30 #[.string a, .string b, .int .i64 k, jnv v, .bool false] w fun e w' => e = .returned (jnb (portI a.data.toList b.data.toList k v false)) ∧ Below w.heap.size w w' := by
  obtain ⟨X, p, hX⟩ : ∃ X p, (runI a.data.toList v).getD Z6 = X ∧ (runI a.data.toList v).isSome = p := ⟨_, _, rfl, rfl⟩
  obtain ⟨Y, q, hY⟩ : ∃ X p, (runI b.data.toList v).getD Z6 = X ∧ (runI b.data.toList v).isSome = p := ⟨_, _, rfl, rfl⟩
  obtain ⟨F0, hF0⟩ : ∃ F, phF k = F := ⟨_, rfl⟩
  obtain ⟨F, hF⟩ : ∃ F, phF (if false then (k + 2) % 4 else k) = F := ⟨_, rfl⟩
  obtain ⟨Z, r, hZ⟩ : ∃ X p, (jtimesI Y F).getD Z6 = X ∧ (jtimesI Y F).isSome = p := ⟨_, _, rfl, rfl⟩
  obtain ⟨S, t, hS⟩ : ∃ X1 p, (jaddI X Z).getD Z6 = X1 ∧ (jaddI X Z).isSome = p := ⟨_, _, rfl, rfl⟩
  obtain ⟨O, u, hO⟩ : ∃ X p, (jtimesI S ⟨1, 0, 2⟩).getD Z6 = X ∧ (jtimesI S ⟨1, 0, 2⟩).isSome = p := ⟨_, _, rfl, rfl⟩
  have hgo := portI_go (s := false) hk hX hY hF hZ hS hO
  obtain ⟨R, hR⟩ : ∃ R, portI a.data.toList b.data.toList k v false = R := ⟨_, rfl⟩
  rw [hR] at hgo ⊢
  have HR := Lib.hid hgo
  have hkb := inB_iff.1 hk
  have hk0 := hkb.1
  have hk3 := hkb.2
  have HX := Lib.hid hX
  have HY := Lib.hid hY
  have HF0 := Lib.hid hF0
  have HF := Lib.hid hF
  have HZ := Lib.hid hZ
  have HS := Lib.hid hS
  have HO := Lib.hid hO
  clear hX hY hF hF0 hZ hS hO hgo hkb hR
  go_enter Tryz.func30, Tryz.ntmps30
  obtain ⟨W0, hW, hW0⟩ : ∃ W, W = (w.alloc (.cells #[.int .i64 v.x.re, .int .i64 v.x.im, .int .i64 v.x.den, .int .i64 v.y.re, .int .i64 v.y.im, .int .i64 v.y.den] 26)).alloc (.cells #[.int .i64 0, .int .i64 0, .int .i64 0, .int .i64 0, .int .i64 0, .int .i64 0] 26) ∧ BW w [(w.heap.size + 1, jc Z6, 26), (w.heap.size, jc v, 26)] W := by
    refine ⟨_, rfl, ?_⟩
    have h1 := BW.one w (jc v) 26
    have h2 := h1.push (Below.refl _ _) (jc Z6) 26
    simp only [World.size_alloc] at h2
    exact h2
  go_upto_region 1 with fail
  rw [← hW]
  clear hW
  go_upto_region 3 with (first | (go_at_call 70; refine (l6in_o _ _ _ _ _ hk).mono ?_; rintro e w1 ⟨rfl, hw⟩; obtain rfl := hw.symm))
  clear hk
  obtain ⟨q00, q01, q02, q03, q04, q05⟩ := (blk_j (a := v) (hW0.at (b := w.heap.size) (cs := jc v) (t := 26) (by simp))).1
  have q0l := blk_lt (hW0.at (b := w.heap.size) (cs := jc v) (t := 26) (by simp))
  go_upto_region 4 with (first | (go_at_call 71; (with_reducible refine (srun_m a v X p _ HX).mono ?_); rintro e v1 ⟨rfl, hb⟩))
  have hP := hW0.push hb (jc X) 26
  obtain ⟨bX, hbb⟩ : ∃ b, b = v1.heap.size := ⟨_, rfl⟩
  have hbu := hb.size
  obtain ⟨W1, hW, hWr⟩ : ∃ W, W = v1.alloc (.cells #[.int .i64 X.x.re, .int .i64 X.x.im, .int .i64 X.x.den, .int .i64 X.y.re, .int .i64 X.y.im, .int .i64 X.y.den] 26) ∧ W = v1.alloc (.cells (jc X) 26) := ⟨_, rfl, rfl⟩
  rw [← hbb, ← hWr] at hP
  rw [← hbb] at hbu
  rw [← hW, ← hbb]
  have hW1 := hP
  clear hP hb hW hWr hW0
  clear hbb hbu
  clear q00 q01 q02 q03 q04 q05 q0l
  obtain ⟨q00, q01, q02, q03, q04, q05⟩ := (blk_j (a := v) (hW1.at (b := w.heap.size) (cs := jc v) (t := 26) (by simp))).1
  have q0l := blk_lt (hW1.at (b := w.heap.size) (cs := jc v) (t := 26) (by simp))
  go_upto_region 5 with (first | (go_at_call 71; (with_reducible refine (srun_m b v Y q _ HY).mono ?_); rintro e v2 ⟨rfl, hb⟩))
  have hP := hW1.push hb (jc Y) 26
  obtain ⟨bY, hbb⟩ : ∃ b, b = v2.heap.size := ⟨_, rfl⟩
  have hbu := hb.size
  obtain ⟨W2, hW, hWr⟩ : ∃ W, W = v2.alloc (.cells #[.int .i64 Y.x.re, .int .i64 Y.x.im, .int .i64 Y.x.den, .int .i64 Y.y.re, .int .i64 Y.y.im, .int .i64 Y.y.den] 26) ∧ W = v2.alloc (.cells (jc Y) 26) := ⟨_, rfl, rfl⟩
  rw [← hbb, ← hWr] at hP
  rw [← hbb] at hbu
  rw [← hW, ← hbb]
  have hW2 := hP
  clear hP hb hW hWr hW1
  clear hbb hbu
  clear q00 q01 q02 q03 q04 q05 q0l
  cases p
  · skip
    obtain ⟨q10, q11, q12, q13, q14, q15⟩ := (blk_j (a := Z6) (hW2.at (b := w.heap.size + 1) (cs := jc Z6) (t := 26) (by simp))).1
    have q1l := blk_lt (hW2.at (b := w.heap.size + 1) (cs := jc Z6) (t := 26) (by simp))
    have q1f := blk_free0 (hW2.at (b := w.heap.size + 1) (cs := jc Z6) (t := 26) (by simp))
    have hBF := hW2.B
    go_wp2
    exact bodyPost_ret (v := jnb none) (by simp [results, Tryz.results30, go_sem, *]) rfl ⟨by rw [HR.out]; rfl, by exact below_⟩
  cases q
  · skip
    obtain ⟨q10, q11, q12, q13, q14, q15⟩ := (blk_j (a := Z6) (hW2.at (b := w.heap.size + 1) (cs := jc Z6) (t := 26) (by simp))).1
    have q1l := blk_lt (hW2.at (b := w.heap.size + 1) (cs := jc Z6) (t := 26) (by simp))
    have q1f := blk_free0 (hW2.at (b := w.heap.size + 1) (cs := jc Z6) (t := 26) (by simp))
    have hBF := hW2.B
    go_wp2
    exact bodyPost_ret (v := jnb none) (by simp [results, Tryz.results30, go_sem, *]) rfl ⟨by rw [HR.out]; rfl, by exact below_⟩
  obtain rfl : F = F0 := by rw [← HF.out, ← HF0.out]; rfl
  go_upto_region 8 with (first | (go_at_call 72; (with_reducible refine (sphase_m k F _ hk0 hk3 HF0).mono ?_); rintro e v3 ⟨rfl, hb⟩))
  have hP := hW2.push hb (frc F) 24
  obtain ⟨bF, hbb⟩ : ∃ b, b = v3.heap.size := ⟨_, rfl⟩
  have hbu := hb.size
  obtain ⟨W3, hW, hWr⟩ : ∃ W, W = v3.alloc (.cells #[.int .i64 F.re, .int .i64 F.im, .int .i64 F.den] 24) ∧ W = v3.alloc (.cells (frc F) 24) := ⟨_, rfl, rfl⟩
  rw [← hbb, ← hWr] at hP
  rw [← hbb] at hbu
  rw [← hW, ← hbb]
  have hW3 := hP
  clear hP hb hW hWr hW2
  clear hbb hbu
  obtain ⟨q30, q31, q32, q33, q34, q35⟩ := (blk_j (a := Y) (hW3.at (b := bY) (cs := jc Y) (t := 26) (by simp))).1
  have q3l := blk_lt (hW3.at (b := bY) (cs := jc Y) (t := 26) (by simp))
  obtain ⟨q40, q41, q42⟩ := blk_fr0 (f := F) (hW3.at (b := bF) (cs := frc F) (t := 24) (by simp))
  have q4l := blk_lt (hW3.at (b := bF) (cs := frc F) (t := 24) (by simp))
  go_upto_region 11 with (first | (go_at_call 73; (with_reducible refine (sjtimes_m Y Z F r _ HZ).mono ?_); rintro e v4 ⟨rfl, hb⟩))
  have hP := hW3.push hb (jc Z) 26
  obtain ⟨bZ, hbb⟩ : ∃ b, b = v4.heap.size := ⟨_, rfl⟩
  have hbu := hb.size
  obtain ⟨W4, hW, hWr⟩ : ∃ W, W = v4.alloc (.cells #[.int .i64 Z.x.re, .int .i64 Z.x.im, .int .i64 Z.x.den, .int .i64 Z.y.re, .int .i64 Z.y.im, .int .i64 Z.y.den] 26) ∧ W = v4.alloc (.cells (jc Z) 26) := ⟨_, rfl, rfl⟩
  rw [← hbb, ← hWr] at hP
  rw [← hbb] at hbu
  rw [← hW, ← hbb]
  have hW4 := hP
  clear hP hb hW hWr hW3
  clear hbb hbu
  clear q30 q31 q32 q33 q34 q35 q3l q40 q41 q42 q4l
  cases r
  · skip
    obtain ⟨q10, q11, q12, q13, q14, q15⟩ := (blk_j (a := Z6) (hW4.at (b := w.heap.size + 1) (cs := jc Z6) (t := 26) (by simp))).1
    have q1l := blk_lt (hW4.at (b := w.heap.size + 1) (cs := jc Z6) (t := 26) (by simp))
    have q1f := blk_free0 (hW4.at (b := w.heap.size + 1) (cs := jc Z6) (t := 26) (by simp))
    have hBF := hW4.B
    go_wp2
    exact bodyPost_ret (v := jnb none) (by simp [results, Tryz.results30, go_sem, *]) rfl ⟨by rw [HR.out]; rfl, by exact below_⟩
  obtain ⟨q20, q21, q22, q23, q24, q25⟩ := (blk_j (a := X) (hW4.at (b := bX) (cs := jc X) (t := 26) (by simp))).1
  have q2l := blk_lt (hW4.at (b := bX) (cs := jc X) (t := 26) (by simp))
  obtain ⟨q50, q51, q52, q53, q54, q55⟩ := (blk_j (a := Z) (hW4.at (b := bZ) (cs := jc Z) (t := 26) (by simp))).1
  have q5l := blk_lt (hW4.at (b := bZ) (cs := jc Z) (t := 26) (by simp))
  go_upto_region 14 with (first | (go_at_call 74; (with_reducible refine (sjadd_m X Z S t _ HS).mono ?_); rintro e v5 ⟨rfl, hb⟩))
  have hP := hW4.push hb (jc S) 26
  obtain ⟨bS, hbb⟩ : ∃ b, b = v5.heap.size := ⟨_, rfl⟩
  have hbu := hb.size
  obtain ⟨W5, hW, hWr⟩ : ∃ W, W = v5.alloc (.cells #[.int .i64 S.x.re, .int .i64 S.x.im, .int .i64 S.x.den, .int .i64 S.y.re, .int .i64 S.y.im, .int .i64 S.y.den] 26) ∧ W = v5.alloc (.cells (jc S) 26) := ⟨_, rfl, rfl⟩
  rw [← hbb, ← hWr] at hP
  rw [← hbb] at hbu
  rw [← hW, ← hbb]
  have hW5 := hP
  clear hP hb hW hWr hW4
  clear hbb hbu
  clear q20 q21 q22 q23 q24 q25 q2l q50 q51 q52 q53 q54 q55 q5l
  cases t
  · skip
    obtain ⟨q10, q11, q12, q13, q14, q15⟩ := (blk_j (a := Z6) (hW5.at (b := w.heap.size + 1) (cs := jc Z6) (t := 26) (by simp))).1
    have q1l := blk_lt (hW5.at (b := w.heap.size + 1) (cs := jc Z6) (t := 26) (by simp))
    have q1f := blk_free0 (hW5.at (b := w.heap.size + 1) (cs := jc Z6) (t := 26) (by simp))
    have hBF := hW5.B
    go_wp2
    exact bodyPost_ret (v := jnb none) (by simp [results, Tryz.results30, go_sem, *]) rfl ⟨by rw [HR.out]; rfl, by exact below_⟩
  obtain ⟨q10, q11, q12, q13, q14, q15⟩ := (blk_j (a := Z6) (hW5.at (b := w.heap.size + 1) (cs := jc Z6) (t := 26) (by simp))).1
  have q1l := blk_lt (hW5.at (b := w.heap.size + 1) (cs := jc Z6) (t := 26) (by simp))
  have q1f := blk_free0 (hW5.at (b := w.heap.size + 1) (cs := jc Z6) (t := 26) (by simp))
  obtain ⟨q60, q61, q62, q63, q64, q65⟩ := (blk_j (a := S) (hW5.at (b := bS) (cs := jc S) (t := 26) (by simp))).1
  have q6l := blk_lt (hW5.at (b := bS) (cs := jc S) (t := 26) (by simp))
  have hBF := hW5.B
  go_wp2_with (first | (go_at_call 73; (with_reducible refine (sjtimes_m S O ⟨1, 0, 2⟩ u _ HO).mono ?_); rintro e w9 ⟨rfl, hb⟩; have hQ := hW5.step hb; have hR := hQ.at (b := w.heap.size + 1) (cs := jc Z6) (t := 26) (by simp); have hRf := blk_free0 hR; obtain ⟨y0, y1, y2, y3, y4, y5⟩ := (blk_j hR).1; have hRl := blk_lt hR; have hBF := hQ.B; clear hb))
  have hv : jnb R = .tuple #[jnv O, .bool u] := by
    rw [HR.out]
    cases u
    · have h1 := HO.out
      cases h2 : jtimesI S ⟨1, 0, 2⟩ with
      | none => rw [h2] at h1; obtain ⟨rfl, -⟩ := h1; rfl
      | some x => rw [h2] at h1; cases h1.2
    · rfl
  exact bodyPost_ret (v := .tuple #[jnv O, .bool u]) (by simp [results, Tryz.results30, go_sem, *]) rfl ⟨by rw [hv], by exact below_⟩
set_option maxRecDepth 100000 in
set_option maxHeartbeats 8000000 in
theorem sport_t (a b : ByteArray) (k : Int) (v : Jn) (w : World) (hk : inB k 0 3 = true) :
    Calls Tryz.prog 30 #[.string a, .string b, .int .i64 k, jnv v, .bool true] w fun e w' => e = .returned (jnb (portI a.data.toList b.data.toList k v true)) ∧ Below w.heap.size w w' := by
  obtain ⟨X, p, hX⟩ : ∃ X p, (runI a.data.toList v).getD Z6 = X ∧ (runI a.data.toList v).isSome = p := ⟨_, _, rfl, rfl⟩
  obtain ⟨Y, q, hY⟩ : ∃ X p, (runI b.data.toList v).getD Z6 = X ∧ (runI b.data.toList v).isSome = p := ⟨_, _, rfl, rfl⟩
  obtain ⟨F0, hF0⟩ : ∃ F, phF k = F := ⟨_, rfl⟩
  obtain ⟨F, hF⟩ : ∃ F, phF (if true then (k + 2) % 4 else k) = F := ⟨_, rfl⟩
  obtain ⟨Z, r, hZ⟩ : ∃ X p, (jtimesI Y F).getD Z6 = X ∧ (jtimesI Y F).isSome = p := ⟨_, _, rfl, rfl⟩
  obtain ⟨S, t, hS⟩ : ∃ X1 p, (jaddI X Z).getD Z6 = X1 ∧ (jaddI X Z).isSome = p := ⟨_, _, rfl, rfl⟩
  obtain ⟨O, u, hO⟩ : ∃ X p, (jtimesI S ⟨1, 0, 2⟩).getD Z6 = X ∧ (jtimesI S ⟨1, 0, 2⟩).isSome = p := ⟨_, _, rfl, rfl⟩
  have hgo := portI_go (s := true) hk hX hY hF hZ hS hO
  obtain ⟨R, hR⟩ : ∃ R, portI a.data.toList b.data.toList k v true = R := ⟨_, rfl⟩
  rw [hR] at hgo ⊢
  have HR := Lib.hid hgo
  have hkb := inB_iff.1 hk
  have hk0 := hkb.1
  have hk3 := hkb.2
  obtain ⟨k2, hk2⟩ : ∃ k2, (k + 2) % 4 = k2 := ⟨_, rfl⟩
  have hkw : IntKind.i64.wrap (k + 2) = k + 2 := IntWalk.i64_in _ (by omega)
  have hkt : Int.tmod (k + 2) 4 = k2 := by rw [← hk2]; exact Int.tmod_eq_emod_of_nonneg (by omega)
  have hkv : IntKind.i64.wrap k2 = k2 := IntWalk.i64_in _ (by omega)
  have hk20 : 0 ≤ k2 := by omega
  have hk23 : k2 ≤ 3 := by omega
  have HF2 : Hid (phF k2 = F) := Lib.hid (by rw [← hk2]; exact hF)
  clear hk2
  have HX := Lib.hid hX
  have HY := Lib.hid hY
  have HF0 := Lib.hid hF0
  have HF := Lib.hid hF
  have HZ := Lib.hid hZ
  have HS := Lib.hid hS
  have HO := Lib.hid hO
  clear hX hY hF hF0 hZ hS hO hgo hkb hR
  go_enter Tryz.func30, Tryz.ntmps30
  obtain ⟨W0, hW, hW0⟩ : ∃ W, W = (w.alloc (.cells #[.int .i64 v.x.re, .int .i64 v.x.im, .int .i64 v.x.den, .int .i64 v.y.re, .int .i64 v.y.im, .int .i64 v.y.den] 26)).alloc (.cells #[.int .i64 0, .int .i64 0, .int .i64 0, .int .i64 0, .int .i64 0, .int .i64 0] 26) ∧ BW w [(w.heap.size + 1, jc Z6, 26), (w.heap.size, jc v, 26)] W := by
    refine ⟨_, rfl, ?_⟩
    have h1 := BW.one w (jc v) 26
    have h2 := h1.push (Below.refl _ _) (jc Z6) 26
    simp only [World.size_alloc] at h2
    exact h2
  go_upto_region 1 with fail
  rw [← hW]
  clear hW
  go_upto_region 3 with (first | (go_at_call 70; refine (l6in_o _ _ _ _ _ hk).mono ?_; rintro e w1 ⟨rfl, hw⟩; obtain rfl := hw.symm))
  clear hk
  obtain ⟨q00, q01, q02, q03, q04, q05⟩ := (blk_j (a := v) (hW0.at (b := w.heap.size) (cs := jc v) (t := 26) (by simp))).1
  have q0l := blk_lt (hW0.at (b := w.heap.size) (cs := jc v) (t := 26) (by simp))
  go_upto_region 4 with (first | (go_at_call 71; (with_reducible refine (srun_m a v X p _ HX).mono ?_); rintro e v1 ⟨rfl, hb⟩))
  have hP := hW0.push hb (jc X) 26
  obtain ⟨bX, hbb⟩ : ∃ b, b = v1.heap.size := ⟨_, rfl⟩
  have hbu := hb.size
  obtain ⟨W1, hW, hWr⟩ : ∃ W, W = v1.alloc (.cells #[.int .i64 X.x.re, .int .i64 X.x.im, .int .i64 X.x.den, .int .i64 X.y.re, .int .i64 X.y.im, .int .i64 X.y.den] 26) ∧ W = v1.alloc (.cells (jc X) 26) := ⟨_, rfl, rfl⟩
  rw [← hbb, ← hWr] at hP
  rw [← hbb] at hbu
  rw [← hW, ← hbb]
  have hW1 := hP
  clear hP hb hW hWr hW0
  clear hbb hbu
  clear q00 q01 q02 q03 q04 q05 q0l
  obtain ⟨q00, q01, q02, q03, q04, q05⟩ := (blk_j (a := v) (hW1.at (b := w.heap.size) (cs := jc v) (t := 26) (by simp))).1
  have q0l := blk_lt (hW1.at (b := w.heap.size) (cs := jc v) (t := 26) (by simp))
  go_upto_region 5 with (first | (go_at_call 71; (with_reducible refine (srun_m b v Y q _ HY).mono ?_); rintro e v2 ⟨rfl, hb⟩))
  have hP := hW1.push hb (jc Y) 26
  obtain ⟨bY, hbb⟩ : ∃ b, b = v2.heap.size := ⟨_, rfl⟩
  have hbu := hb.size
  obtain ⟨W2, hW, hWr⟩ : ∃ W, W = v2.alloc (.cells #[.int .i64 Y.x.re, .int .i64 Y.x.im, .int .i64 Y.x.den, .int .i64 Y.y.re, .int .i64 Y.y.im, .int .i64 Y.y.den] 26) ∧ W = v2.alloc (.cells (jc Y) 26) := ⟨_, rfl, rfl⟩
  rw [← hbb, ← hWr] at hP
  rw [← hbb] at hbu
  rw [← hW, ← hbb]
  have hW2 := hP
  clear hP hb hW hWr hW1
  clear hbb hbu
  clear q00 q01 q02 q03 q04 q05 q0l
  cases p
  · skip
    obtain ⟨q10, q11, q12, q13, q14, q15⟩ := (blk_j (a := Z6) (hW2.at (b := w.heap.size + 1) (cs := jc Z6) (t := 26) (by simp))).1
    have q1l := blk_lt (hW2.at (b := w.heap.size + 1) (cs := jc Z6) (t := 26) (by simp))
    have q1f := blk_free0 (hW2.at (b := w.heap.size + 1) (cs := jc Z6) (t := 26) (by simp))
    have hBF := hW2.B
    go_wp2
    exact bodyPost_ret (v := jnb none) (by simp [results, Tryz.results30, go_sem, *]) rfl ⟨by rw [HR.out]; rfl, by exact below_⟩
  cases q
  · skip
    obtain ⟨q10, q11, q12, q13, q14, q15⟩ := (blk_j (a := Z6) (hW2.at (b := w.heap.size + 1) (cs := jc Z6) (t := 26) (by simp))).1
    have q1l := blk_lt (hW2.at (b := w.heap.size + 1) (cs := jc Z6) (t := 26) (by simp))
    have q1f := blk_free0 (hW2.at (b := w.heap.size + 1) (cs := jc Z6) (t := 26) (by simp))
    have hBF := hW2.B
    go_wp2
    exact bodyPost_ret (v := jnb none) (by simp [results, Tryz.results30, go_sem, *]) rfl ⟨by rw [HR.out]; rfl, by exact below_⟩
  go_upto_region 8 with (first | (go_at_call 72; (with_reducible refine (sphase_m k F0 _ hk0 hk3 HF0).mono ?_); rintro e v3 ⟨rfl, hb⟩))
  have hP := hW2.push hb (frc F0) 24
  obtain ⟨bF, hbb⟩ : ∃ b, b = v3.heap.size := ⟨_, rfl⟩
  have hbu := hb.size
  obtain ⟨W3, hW, hWr⟩ : ∃ W, W = v3.alloc (.cells #[.int .i64 F0.re, .int .i64 F0.im, .int .i64 F0.den] 24) ∧ W = v3.alloc (.cells (frc F0) 24) := ⟨_, rfl, rfl⟩
  rw [← hbb, ← hWr] at hP
  rw [← hbb] at hbu
  rw [← hW, ← hbb]
  have hW3 := hP
  clear hP hb hW hWr hW2
  clear hbb hbu
  obtain ⟨q40, q41, q42⟩ := blk_fr0 (f := F0) (hW3.at (b := bF) (cs := frc F0) (t := 24) (by simp))
  have q4l := blk_lt (hW3.at (b := bF) (cs := frc F0) (t := 24) (by simp))
  have q4f := blk_free0 (hW3.at (b := bF) (cs := frc F0) (t := 24) (by simp))
  go_upto_region 10 with (first | (go_at_call 72; (with_reducible refine (sphase_m k2 F _ hk20 hk23 HF2).mono ?_); rintro e w9 ⟨rfl, hb⟩; have hQ := hW3.step hb; have hQf := blk_free0 hQ.top; have hQl := blk_lt hQ.top; obtain ⟨y0, y1, y2⟩ := blk_fr0 hQ.top))
  obtain ⟨W4, hW, hW4⟩ : ∃ W, W = ((w9.setCell ⟨bF, 0, none⟩ (.int .i64 F.re)).setCell ⟨bF, 1, none⟩ (.int .i64 F.im)).setCell ⟨bF, 2, none⟩ (.int .i64 F.den) ∧ BW w ((bF, frc F, 24) :: [(bY, jc Y, 26), (bX, jc X, 26), (w.heap.size + 1, jc Z6, 26), (w.heap.size, jc v, 26)]) W := by
    refine ⟨_, rfl, hQ.set (by have := hW3.lo _ (by simp : (bF, frc F0, 24) ∈ _); exact (((Below.refl _ _).setCell this _).setCell this _).setCell this _) (fun c hc => ?_) (by simp [Blk, World.setCell, Array.getElem?_modify, hQ.top, frc])⟩
    exact (Below.heap_setCell _ _ _ c hc).trans ((Below.heap_setCell _ _ _ c hc).trans (Below.heap_setCell _ _ _ c hc))
  rw [← hW]
  clear hW hQ hQf hQl y0 y1 y2 hb hW3 q40 q41 q42 q4l q4f
  obtain ⟨q30, q31, q32, q33, q34, q35⟩ := (blk_j (a := Y) (hW4.at (b := bY) (cs := jc Y) (t := 26) (by simp))).1
  have q3l := blk_lt (hW4.at (b := bY) (cs := jc Y) (t := 26) (by simp))
  obtain ⟨q40, q41, q42⟩ := blk_fr0 (f := F) (hW4.at (b := bF) (cs := frc F) (t := 24) (by simp))
  have q4l := blk_lt (hW4.at (b := bF) (cs := frc F) (t := 24) (by simp))
  go_upto_region 11 with (first | (go_at_call 73; (with_reducible refine (sjtimes_m Y Z F r _ HZ).mono ?_); rintro e v5 ⟨rfl, hb⟩))
  have hP := hW4.push hb (jc Z) 26
  obtain ⟨bZ, hbb⟩ : ∃ b, b = v5.heap.size := ⟨_, rfl⟩
  have hbu := hb.size
  obtain ⟨W5, hW, hWr⟩ : ∃ W, W = v5.alloc (.cells #[.int .i64 Z.x.re, .int .i64 Z.x.im, .int .i64 Z.x.den, .int .i64 Z.y.re, .int .i64 Z.y.im, .int .i64 Z.y.den] 26) ∧ W = v5.alloc (.cells (jc Z) 26) := ⟨_, rfl, rfl⟩
  rw [← hbb, ← hWr] at hP
  rw [← hbb] at hbu
  rw [← hW, ← hbb]
  have hW5 := hP
  clear hP hb hW hWr hW4
  clear hbb hbu
  clear q30 q31 q32 q33 q34 q35 q3l q40 q41 q42 q4l
  cases r
  · skip
    obtain ⟨q10, q11, q12, q13, q14, q15⟩ := (blk_j (a := Z6) (hW5.at (b := w.heap.size + 1) (cs := jc Z6) (t := 26) (by simp))).1
    have q1l := blk_lt (hW5.at (b := w.heap.size + 1) (cs := jc Z6) (t := 26) (by simp))
    have q1f := blk_free0 (hW5.at (b := w.heap.size + 1) (cs := jc Z6) (t := 26) (by simp))
    have hBF := hW5.B
    go_wp2
    exact bodyPost_ret (v := jnb none) (by simp [results, Tryz.results30, go_sem, *]) rfl ⟨by rw [HR.out]; rfl, by exact below_⟩
  obtain ⟨q20, q21, q22, q23, q24, q25⟩ := (blk_j (a := X) (hW5.at (b := bX) (cs := jc X) (t := 26) (by simp))).1
  have q2l := blk_lt (hW5.at (b := bX) (cs := jc X) (t := 26) (by simp))
  obtain ⟨q50, q51, q52, q53, q54, q55⟩ := (blk_j (a := Z) (hW5.at (b := bZ) (cs := jc Z) (t := 26) (by simp))).1
  have q5l := blk_lt (hW5.at (b := bZ) (cs := jc Z) (t := 26) (by simp))
  go_upto_region 14 with (first | (go_at_call 74; (with_reducible refine (sjadd_m X Z S t _ HS).mono ?_); rintro e v6 ⟨rfl, hb⟩))
  have hP := hW5.push hb (jc S) 26
  obtain ⟨bS, hbb⟩ : ∃ b, b = v6.heap.size := ⟨_, rfl⟩
  have hbu := hb.size
  obtain ⟨W6, hW, hWr⟩ : ∃ W, W = v6.alloc (.cells #[.int .i64 S.x.re, .int .i64 S.x.im, .int .i64 S.x.den, .int .i64 S.y.re, .int .i64 S.y.im, .int .i64 S.y.den] 26) ∧ W = v6.alloc (.cells (jc S) 26) := ⟨_, rfl, rfl⟩
  rw [← hbb, ← hWr] at hP
  rw [← hbb] at hbu
  rw [← hW, ← hbb]
  have hW6 := hP
  clear hP hb hW hWr hW5
  clear hbb hbu
  clear q20 q21 q22 q23 q24 q25 q2l q50 q51 q52 q53 q54 q55 q5l
  cases t
  · skip
    obtain ⟨q10, q11, q12, q13, q14, q15⟩ := (blk_j (a := Z6) (hW6.at (b := w.heap.size + 1) (cs := jc Z6) (t := 26) (by simp))).1
    have q1l := blk_lt (hW6.at (b := w.heap.size + 1) (cs := jc Z6) (t := 26) (by simp))
    have q1f := blk_free0 (hW6.at (b := w.heap.size + 1) (cs := jc Z6) (t := 26) (by simp))
    have hBF := hW6.B
    go_wp2
    exact bodyPost_ret (v := jnb none) (by simp [results, Tryz.results30, go_sem, *]) rfl ⟨by rw [HR.out]; rfl, by exact below_⟩
  obtain ⟨q10, q11, q12, q13, q14, q15⟩ := (blk_j (a := Z6) (hW6.at (b := w.heap.size + 1) (cs := jc Z6) (t := 26) (by simp))).1
  have q1l := blk_lt (hW6.at (b := w.heap.size + 1) (cs := jc Z6) (t := 26) (by simp))
  have q1f := blk_free0 (hW6.at (b := w.heap.size + 1) (cs := jc Z6) (t := 26) (by simp))
  obtain ⟨q60, q61, q62, q63, q64, q65⟩ := (blk_j (a := S) (hW6.at (b := bS) (cs := jc S) (t := 26) (by simp))).1
  have q6l := blk_lt (hW6.at (b := bS) (cs := jc S) (t := 26) (by simp))
  have hBF := hW6.B
  go_wp2_with (first | (go_at_call 73; (with_reducible refine (sjtimes_m S O ⟨1, 0, 2⟩ u _ HO).mono ?_); rintro e w9 ⟨rfl, hb⟩; have hQ := hW6.step hb; have hR := hQ.at (b := w.heap.size + 1) (cs := jc Z6) (t := 26) (by simp); have hRf := blk_free0 hR; obtain ⟨y0, y1, y2, y3, y4, y5⟩ := (blk_j hR).1; have hRl := blk_lt hR; have hBF := hQ.B; clear hb))
  have hv : jnb R = .tuple #[jnv O, .bool u] := by
    rw [HR.out]
    cases u
    · have h1 := HO.out
      cases h2 : jtimesI S ⟨1, 0, 2⟩ with
      | none => rw [h2] at h1; obtain ⟨rfl, -⟩ := h1; rfl
      | some x => rw [h2] at h1; cases h1.2
    · rfl
  exact bodyPost_ret (v := .tuple #[jnv O, .bool u]) (by simp [results, Tryz.results30, go_sem, *]) rfl ⟨by rw [hv], by exact below_⟩
theorem sport_any (a b : ByteArray) (k : Int) (v : Jn) (s : Bool) (w : World) :
    Calls Tryz.prog 30 #[.string a, .string b, .int .i64 k, jnv v, .bool s] w fun e w' => e = .returned (jnb (portI a.data.toList b.data.toList k v s)) ∧ Below w.heap.size w w' := by
  cases hk : inB k 0 3
  · rw [show portI a.data.toList b.data.toList k v s = none by simp [portI, hk]]
    exact sport_no a b k v s w hk
  · cases s
    · exact sport_f a b k v w hk
    · exact sport_t a b k v w hk
end
section
open Go.RowKit
attribute [local go_sem ↓] Go.wp_at_zero Go.wp_at_succ
theorem fringe_yes {a b : List UInt8} {v X : Jn} {k : Int} {F : Fr} {p q : Bool} (hX : (portI a b k v false).getD Z6 = X ∧ (portI a b k v false).isSome = p) (hF : (jpowerI X).getD Z3 = F ∧ (jpowerI X).isSome = q) (hp : p = true) (hq : q = true) : fringeI a b v k = some F := by
  unfold fringeI
  cases h1 : portI a b k v false with
  | none => rw [h1] at hX; rw [← hX.2] at hp; cases hp
  | some x =>
    rw [h1] at hX
    obtain rfl : x = X := hX.1
    rw [Option.bind_some]
    cases h2 : jpowerI x with
    | none => rw [h2] at hF; rw [← hF.2] at hq; cases hq
    | some f =>
      rw [h2] at hF
      obtain rfl : f = F := hF.1
      rfl
theorem fringe_no {a b : List UInt8} {v X : Jn} {k : Int} {F : Fr} {p q : Bool} (hX : (portI a b k v false).getD Z6 = X ∧ (portI a b k v false).isSome = p) (hF : (jpowerI X).getD Z3 = F ∧ (jpowerI X).isSome = q) (hpq : p = false ∨ q = false) : fringeI a b v k = none := by
  unfold fringeI
  cases h1 : portI a b k v false with
  | none => rfl
  | some x =>
    rw [h1] at hX
    obtain rfl : x = X := hX.1
    rw [Option.bind_some]
    cases h2 : jpowerI x with
    | none => rfl
    | some f =>
      rw [h2] at hF
      rcases hpq with hp | hq
      · rw [← hX.2] at hp; cases hp
      · rw [← hF.2] at hq; cases hq
theorem four_at {k : Nat} (h : k < 4) : ([0, 1, 2, 3] : List Int)[k]? = some (k : Int) := by
  rcases (show k = 0 ∨ k = 1 ∨ k = 2 ∨ k = 3 by omega) with rfl | rfl | rfl | rfl <;> rfl
theorem fringes_no {a b : List UInt8} {v : Jn} {k : Nat} (h : k < 4) (hn : fringeI a b v k = none) : fringesI a b v = none := allM_none (four_at h) hn
/-- What the loop over the phases keeps. -/
structure FW (w : World) (v : Jn) (lv : Value) (fs : List Fr) (W : World) : Prop where
  B : Below w.heap.size w W
  j : Blk W w.heap.size (jc v) 26
  o : OwF (w.heap.size + 1) lv fs W
theorem FW.below {w W W' : World} {v : Jn} {lv : Value} {fs : List Fr} (h : FW w v lv fs W) (hb : Below W.heap.size W W') : FW w v lv fs W' :=
  ⟨bstep h.B hb h.B.size, (hb.block _ (blk_lt h.j)).trans h.j, h.o.below hb⟩
theorem FW.grown {w W W' : World} {v : Jn} {lv lv' : Value} {fs fs' : List Fr} (h : FW w v lv fs W) (hg : W.grownBy W' lv.ownBlock) (hO : OwF (w.heap.size + 1) lv' fs' W') : FW w v lv' fs' W' :=
  ⟨below_ownF h.B h.o (by omega) hg, (hg.block _ (blk_lt h.j) (fun e => by have := (h.o.lt _ e.symm).1; omega)).trans h.j, hO⟩
theorem sport_m (a b : ByteArray) (k : Int) (v : Jn) (s : Bool) (X : Jn) (p : Bool) (w : World) (e : Hid ((portI a.data.toList b.data.toList k v s).getD Z6 = X ∧ (portI a.data.toList b.data.toList k v s).isSome = p)) :
    Calls Tryz.prog 30 #[.string a, .string b, .int .i64 k, jnv v, .bool s] w fun e w' => e = .returned (.tuple #[jnv X, .bool p]) ∧ Below w.heap.size w w' := by
  rw [← e.out.1, ← e.out.2]; exact sport_any a b k v s w
theorem sjpower_m (a : Jn) (F : Fr) (q : Bool) (w : World) (e : Hid ((jpowerI a).getD Z3 = F ∧ (jpowerI a).isSome = q)) :
    Calls Tryz.prog 79 #[jnv a] w fun e w' => e = .returned (.tuple #[frv F, .bool q]) ∧ Below w.heap.size w w' := by
  rw [← e.out.1, ← e.out.2]; exact sjpower_any a w
set_option maxRecDepth 100000 in
set_option maxHeartbeats 8000000 in
theorem sfringes_any (a b : ByteArray) (v : Jn) (w : World) :
    Calls Tryz.prog 41 #[.string a, .string b, jnv v] w fun e w' => ∃ lv, e = .returned (.tuple #[lv, .bool (fringesI a.data.toList b.data.toList v).isSome]) ∧ OwF w.heap.size lv ((fringesI a.data.toList b.data.toList v).getD []) w' ∧ Below w.heap.size w w' := by
  obtain ⟨W0, hW0, hQ0⟩ : ∃ W, W = (w.alloc (.cells #[.int .i64 v.x.re, .int .i64 v.x.im, .int .i64 v.x.den, .int .i64 v.y.re, .int .i64 v.y.im, .int .i64 v.y.den] 26)).alloc (.cells #[] 24) ∧ FW w v (.slice (some ⟨w.heap.size + 1, 0, none⟩) 0 0) [] W := by
    refine ⟨_, rfl, by exact below_, (Below.heap_alloc _ _ _ (by simp)).trans (heap_alloc_last w _), ?_⟩
    have := OwF.made (w.alloc (.cells #[.int .i64 v.x.re, .int .i64 v.x.im, .int .i64 v.x.den, .int .i64 v.y.re, .int .i64 v.y.im, .int .i64 v.y.den] 26)) (w.heap.size + 1) (by simp)
    rwa [World.size_alloc] at this
  go_enter Tryz.func41, Tryz.ntmps41
  go_upto_region 2 with fail
  rw [← hW0]
  clear hW0
  go_upto_region 3 with fail
  go_loopw [8, 9] (fun lv iv wr => ∃ (k : Nat) (fs : List Fr), k ≤ 4 ∧ iv = .int .i64 k ∧ Hid (allM (fringeI a.data.toList b.data.toList v) (([0, 1, 2, 3] : List Int).take k) = some fs ∧ fs.length = k) ∧ FW w v lv fs wr) (fun _ iv _ => 4 - (intOf iv).toNat)
  case atStart => exact ⟨0, [], by omega, rfl, Lib.hid ⟨rfl, rfl⟩, hQ0⟩
  case round =>
    clear hQ0
    obtain ⟨k, fs, hk, rfl, hall, hQ⟩ := hrel
    have hzw := hQ.B.size
    have hkw : IntKind.i64.wrap ((k : Int) + 1) = (k : Int) + 1 := IntWalk.i64_in _ (by omega)
    by_cases hkl : k < 4
    · have hki : (k : Int) < 4 := by omega
      obtain ⟨X, p, hX⟩ : ∃ X p, (portI a.data.toList b.data.toList k v false).getD Z6 = X ∧ (portI a.data.toList b.data.toList k v false).isSome = p := ⟨_, _, rfl, rfl⟩
      obtain ⟨F, q, hF⟩ : ∃ F q, (jpowerI X).getD Z3 = F ∧ (jpowerI X).isSome = q := ⟨_, _, rfl, rfl⟩
      have HX := Lib.hid hX
      have HF := Lib.hid hF
      clear hX hF
      obtain ⟨⟨j0, j1, j2, j3, j4, j5⟩, -⟩ := blk_j hQ.j
      go_upto_region 6 with (go_at_call 30; (with_reducible refine (sport_m a b k v false X p _ HX).mono ?_); rintro e w1 ⟨rfl, hb⟩)
      have hQ1 := hQ.below hb
      clear j0 j1 j2 j3 j4 j5 hQ hb
      obtain ⟨bX, hbX⟩ : ∃ x, x = w1.heap.size := ⟨_, rfl⟩
      obtain ⟨W1, hW1, hQ2, hC⟩ : ∃ W, W = w1.alloc (.cells #[.int .i64 X.x.re, .int .i64 X.x.im, .int .i64 X.x.den, .int .i64 X.y.re, .int .i64 X.y.im, .int .i64 X.y.den] 26) ∧ FW w v _ fs W ∧ Blk W bX (jc X) 26 :=
        ⟨_, rfl, hQ1.below ((Below.refl _ _).alloc (Nat.le_refl _) _), by rw [hbX]; exact heap_alloc_last w1 _⟩
      rw [← hW1, ← hbX]
      have hzw := hQ2.B.size
      clear hW1 hbX hQ1
      cases p
      · skip
        have hn := fringes_no hkl (fringe_no HX.out HF.out (.inl rfl))
        have HE := Lib.hid hn
        have hO9 := OwF.made W1 w.heap.size hQ2.B.size
        have hB9 := hQ2.B.alloc hQ2.B.size (.cells #[] 24)
        clear hn HX HF hall hC
        go_wp2
        go_ret2
        exact ⟨_, by rw [HE.out]; rfl, by rw [HE.out]; exact hO9, hB9⟩
      obtain ⟨⟨j0, j1, j2, j3, j4, j5⟩, -⟩ := blk_j hC
      go_upto_region 9 with (go_at_call 79; (with_reducible refine (sjpower_m X F q _ HF).mono ?_); rintro e w2 ⟨rfl, hb⟩)
      have hQ3 := hQ2.below hb
      clear j0 j1 j2 j3 j4 j5 hQ2 hC hb
      obtain ⟨bF, hbF⟩ : ∃ x, x = w2.heap.size := ⟨_, rfl⟩
      obtain ⟨W2, hW2, hQ4, hC⟩ : ∃ W, W = w2.alloc (.cells #[.int .i64 F.re, .int .i64 F.im, .int .i64 F.den] 24) ∧ FW w v _ fs W ∧ Blk W bF (frc F) 24 :=
        ⟨_, rfl, hQ3.below ((Below.refl _ _).alloc (Nat.le_refl _) _), by rw [hbF]; exact heap_alloc_last w2 _⟩
      rw [← hW2, ← hbF]
      have hzw := hQ4.B.size
      clear hW2 hbF hQ3
      cases q
      · skip
        have hn := fringes_no hkl (fringe_no HX.out HF.out (.inr rfl))
        have HE := Lib.hid hn
        have hO9 := OwF.made W2 w.heap.size hQ4.B.size
        have hB9 := hQ4.B.alloc hQ4.B.size (.cells #[] 24)
        clear hn HX HF hall hC
        go_wp2
        go_ret2
        exact ⟨_, by rw [HE.out]; rfl, by rw [HE.out]; exact hO9, hB9⟩
      have HY := Lib.hid (fringe_yes HX.out HF.out rfl rfl)
      have hlen : fs.length < 4000000 := by have := hall.out.2; omega
      have HLN := Lib.hid hall.out.2
      obtain ⟨f0, f1, f2⟩ := blk_fr0 hC
      have hzo : w.heap.size + 1 ≤ W2.heap.size := by have := blk_lt hQ4.j; omega
      clear HX HF
      go_wp2_with (at_builtin; refine append_fr rfl (.tmp 38) (.tmp 40) rfl (w.heap.size + 1) _ _ _ (by rfl) hQ4.o F (by rfl) hlen hzo ?_; intro v2 w6 hO6 hg6; refine Hid.out ?_)
      refine Lib.hid ?_
      have hQ5 := hQ4.grown hg6 hO6
      clear hO6 hg6 hQ4 hC f0 f1 f2
      go_wp2
      go_roundw
      case rel => exact ⟨k + 1, fs ++ [F], by omega, by go_num, Lib.hid ⟨allM_take hall.out.1 (four_at hkl) HY.out, by rw [List.length_append, HLN.out]; rfl⟩, hQ5⟩
      case measure => simp [intOf]; omega
    · obtain rfl : k = 4 := by omega
      have he : fringesI a.data.toList b.data.toList v = some fs := hall.out.1
      have HE := Lib.hid he
      clear he
      go_wp2
      go_ret2
      exact ⟨_, by rw [HE.out]; rfl, by rw [HE.out]; exact hQ.o.mono (by omega), hQ.B⟩
end
end Go.Proofs.YtjbnkefeacineaaGreatDoor
