/-
  The walk of the reference's reading of a bench.
-/
import Derived.Test.YtkdggljioekkhaaGreatDoorBz
namespace Go.Proofs.YtkdggljioekkhaaGreatDoor
set_option linter.unusedSimpArgs false
set_option linter.unusedVariables false
open Go.RowKit
attribute [local go_sem ↓] Go.wp_at_zero Go.wp_at_succ
/-- What the loop over the words of a bench keeps (reference). -/
structure RBS (w : World) (gb : Nat) (ws : List (List UInt8)) (v : Value) (ps : List Pc) (W : World) : Prop where
  B : Below w.heap.size w W
  g : gb < W.heap.size
  t : ∀ (k : Nat) l, ws[k]? = some l → W.cell? ⟨gb, k, none⟩ = some (.string ⟨l.toArray⟩)
  p : Pcs 90 2 w.heap.size v ps W
  n : ∀ k, v.ownBlock = some k → k ≠ gb
section
variable {w W W' : World} {gb : Nat} {ws : List (List UInt8)} {v : Value} {ps : List Pc}
theorem RBS.below (h : RBS w gb ws v ps W) (hb : Below W.heap.size W W') : RBS w gb ws v ps W' :=
  ⟨bstep h.B hb h.B.size, Nat.lt_of_lt_of_le h.g hb.size, fun k l hk => (hb.cell (p := ⟨gb, k, none⟩) h.g).trans (h.t k l hk), h.p.below hb, h.n⟩
theorem RBS.grown (h : RBS w gb ws v ps W) (hg : W.grownBy W' v.ownBlock) {v' : Value} {ps' : List Pc} (hp : Pcs 90 2 w.heap.size v' ps' W') (hv : v'.ownBlock = v.ownBlock ∨ v'.ownBlock = some W.heap.size) : RBS w gb ws v' ps' W' := by
  have hlt := h.p.lt
  have hgl := h.g
  refine ⟨Below.grown h.B hg h.B.size (fun k e => (hlt k e).1), Nat.lt_of_lt_of_le h.g hg.size, fun k l hk => ?_, hp, fun k hk => ?_⟩
  · rw [World.cell?_of_block (hg.block gb h.g (fun e => h.n _ e.symm rfl))]
    exact h.t k l hk
  · rcases hv with hv | hv
    · exact h.n k (hv ▸ hk)
    · rw [hv] at hk
      have := Option.some.inj hk
      omega
end
theorem benchS_no {l : List UInt8} {ws : List (List UInt8)} (hl : l ≠ []) (h1 : cutL 32 l = ws) (h : allM pieceS ws = none) : benchS l = none := by
  unfold benchS
  rw [if_neg hl, h1, h]
  split <;> rfl
theorem benchS_yes {l : List UInt8} {ws : List (List UInt8)} {ps : List Pc} (hl : l ≠ []) (h3 : ¬ 300 < l.length) (h1 : cutL 32 l = ws) (h : allM pieceS ws = some ps) : (benchS l).isSome = decide (ps.length ≤ 12) ∧ ∀ qs, benchS l = some qs → qs = ps := by
  unfold benchS
  rw [if_neg hl, if_neg h3, h1, h, Option.bind_some]
  by_cases hp : ps.length ≤ 12
  · rw [if_pos hp]
    exact ⟨by simp [hp], fun qs e => (Option.some.inj e).symm⟩
  · rw [if_neg hp]
    exact ⟨by simp [hp], fun qs e => by cases e⟩
set_option maxHeartbeats 4000000 in
theorem sbench_nil (w : World) :
    Calls Tryz.prog 62 #[.string ⟨#[]⟩] w fun e w' => ∃ A len cap, e = .returned (.tuple #[.slice A len cap, .bool true]) ∧ Pcs 90 2 w.heap.size (.slice A len cap) [] w' ∧ Below w.heap.size w w' := by
  have hm := Pcs.made 90 2 w w.heap.size (Nat.le_refl _)
  go_enter Tryz.func62, Tryz.ntmps62
  go_wp2
  go_ret2
  exact ⟨_, _, _, rfl, hm, by exact below_⟩
set_option maxHeartbeats 4000000 in
theorem sbench_long (s : ByteArray) (w : World) (h : 300 < s.size) :
    Calls Tryz.prog 62 #[.string s] w fun e w' => ∃ A len cap, e = .returned (.tuple #[.slice A len cap, .bool false]) ∧ Below w.heap.size w w' := by
  have h3 : 300 < (s.size : Int) := by omega
  have hem : s.toList.isEmpty = false := by
    rw [ByteArray.toList_eq]
    cases hd : s.data.toList with
    | nil =>
      have := Lib.size_eq s
      rw [hd] at this
      simp only [List.length_nil] at this
      omega
    | cons _ _ => rfl
  go_enter Tryz.func62, Tryz.ntmps62
  go_wp2
  go_ret2
  exact ⟨_, _, _, rfl, by exact below_⟩
set_option maxHeartbeats 8000000 in
theorem sbench_cons (s : ByteArray) (l : List UInt8) (hl : s.data.toList = l) (hne : l ≠ []) (w : World) (hs : s.size ≤ 300) :
    Calls Tryz.prog 62 #[.string s] w fun e w' => ∃ A len cap, e = .returned (.tuple #[.slice A len cap, .bool (benchS l).isSome]) ∧ (∀ ps, benchS l = some ps → Pcs 90 2 w.heap.size (.slice A len cap) ps w') ∧ Below w.heap.size w w' := by
  have hsz : s.size = l.length := by rw [Lib.size_eq s, hl]
  have hem : s.toList.isEmpty = false := by rw [ByteArray.toList_eq, hl]; simpa using hne
  have h3 : ¬ 300 < (s.size : Int) := by omega
  have hll : l.length ≤ 300 := by omega
  obtain ⟨ws, hws⟩ : ∃ ws, cutL 32 l = ws := ⟨_, rfl⟩
  have hwl := cutL_len 32 l
  have hwn := cutL_ne 32 l
  rw [hws] at hwl hwn
  have hcut : ∀ W : World, Calls Tryz.prog 91 #[.string s, .int .u8 32] W fun e w' => ∃ gb cap, e = .returned (.slice (some ⟨gb, 0, none⟩) ws.length cap) ∧ W.heap.size ≤ gb ∧ gb < w'.heap.size ∧ Hid (∀ (k : Nat) l, ws[k]? = some l → w'.cell? ⟨gb, k, none⟩ = some (.string ⟨l.toArray⟩)) ∧ Below W.heap.size W w' := fun W => by
    have h := scut_any l 32 (by omega) W
    rw [hws, ← hl, bytes_mk s] at h
    refine h.mono ?_
    rintro e w' ⟨v, rfl, hO, hb⟩
    obtain ⟨g, cap, rfl, h1, h2, h3, h4, h5⟩ := hO.at (List.length_pos_iff.2 hwn)
    exact ⟨g, cap, rfl, h3, h4, Lib.hid h5, hb⟩
  have hp0 := Pcs.made 90 2 w w.heap.size (Nat.le_refl _)
  obtain ⟨W0, hW0, hR0⟩ : ∃ W, W = w.alloc (.cells #[] 90) ∧ ∀ (W1 : World) (gb : Nat), Below W.heap.size W W1 → W.heap.size ≤ gb → gb < W1.heap.size → (∀ (k : Nat) l, ws[k]? = some l → W1.cell? ⟨gb, k, none⟩ = some (.string ⟨l.toArray⟩)) → RBS w gb ws (.slice (some ⟨w.heap.size, 0, none⟩) 0 0) [] W1 := by
    refine ⟨_, rfl, fun W1 gb hb hg1 hg2 ht => ?_⟩
    refine ⟨bstep (by exact below_) hb (by simp), hg2, ht, hp0.below hb, fun k hk => ?_⟩
    have := Option.some.inj hk
    simp only [World.size_alloc] at this hg1
    omega
  have HW := Lib.hid hws
  have HL := Lib.hid hwl
  have HNE := Lib.hid hne
  have HLL := Lib.hid hll
  clear hl hws hwl hwn hne hp0 hll
  go_enter Tryz.func62, Tryz.ntmps62
  go_upto_region 5 with fail
  rw [← hW0]
  clear hW0
  go_upto_region 6 with (go_at_call 91; (with_reducible refine (hcut _).mono ?_); rintro e w1 ⟨gb, cap, rfl, hg1, hg2, ht, hb⟩)
  have hR := hR0 w1 gb hb hg1 hg2 ht.out
  clear hR0 hb hg1 hg2 ht hcut
  have hW0 := hR.B.size
  go_loopw [4, 6] (fun v i wr => ∃ (k : Nat) (ps : List Pc), k ≤ ws.length ∧ i = .int .i64 k ∧ Hid (allM pieceS (ws.take k) = some ps ∧ ps.length = k) ∧ RBS w gb ws v ps wr) (fun _ i _ => ws.length - (intOf i).toNat)
  case atStart => exact ⟨0, [], Nat.zero_le _, rfl, Lib.hid ⟨rfl, rfl⟩, hR⟩
  case round =>
    clear hR
    obtain ⟨k, ps, hk, rfl, hall, hR⟩ := hrel
    have hzw := hR.B.size
    obtain ⟨A0, cap0, hv0⟩ := hR.p.slice
    subst hv0
    by_cases hkl : k < ws.length
    · obtain ⟨x, hx⟩ : ∃ x, ws[k]? = some x := ⟨_, List.getElem?_eq_getElem hkl⟩
      have hwc := hR.t k x hx
      have hll : x.length ≤ 1000000 := by
        have h1 : x.length ≤ (ws.map List.length).sum := mem_sum (List.mem_of_getElem? hx)
        have h2 := HL.out
        have h3 := HLL.out
        omega
      have hkb : (k : Int) + 1 ≤ 9223372036854775807 := by have := HL.out; have := HLL.out; omega
      obtain ⟨ok, hok⟩ : ∃ ok, (pieceS x).isSome = ok := ⟨_, rfl⟩
      have HOK := Lib.hid hok
      have HK := Lib.hid hx
      have hki : (k : Int) < ws.length := by omega
      have hcon : ∀ W, Calls Tryz.prog 92 #[.string ⟨x.toArray⟩] W fun e w' => ∃ kk A len cap, e = .returned (.tuple #[.agg #[.int .u8 kk, .slice A len cap], .bool ok]) ∧
        Hid (∀ y, pieceS x = some y → kk = y.k.toNat ∧ NumsAt w' (.slice A len cap) y.ns ∧ ∀ k, (Value.slice A len cap).ownBlock = some k → W.heap.size ≤ k) ∧ Below W.heap.size W w' := fun W => by
        have h := sone_l x W hll
        rw [hok] at h
        exact h
      clear hok hx
      go_upto_region 11 with (go_at_call 92; (with_reducible refine (hcon _).mono ?_); rintro e w2 ⟨kk, A, len2, cap2, rfl, hq, hb⟩)
      obtain ⟨bp, hbp⟩ : ∃ b, b = w2.heap.size := ⟨_, rfl⟩
      have hR2 := hR.below hb
      have HLT := Lib.hid hR.p.lt
      have hzz := hb.size
      obtain ⟨W2, hW2, hR3, hP3, hz3, hbw⟩ : ∃ W, W = w2.alloc (.cells #[.int .u8 kk, .slice A len2 cap2] 90) ∧ RBS w gb ws (.slice A0 ps.length cap0) ps W ∧ Blk W bp #[.int .u8 kk, .slice A len2 cap2] 90 ∧ w2.heap.size ≤ W.heap.size ∧ Below w2.heap.size w2 W :=
        ⟨_, rfl, hR2.below ((Below.refl _ _).alloc (Nat.le_refl _) _), by rw [hbp]; exact heap_alloc_last w2 _, by simp, (Below.refl _ _).alloc (Nat.le_refl _) _⟩
      rw [← hW2, ← hbp]
      clear hW2 hb hR hwc hR2 hcon hbp
      cases ok
      · have he := benchS_no HNE.out HW.out (allM_none HK.out (by have := HOK.out; simpa using this))
        have HE := Lib.hid he
        have hBq := hR3.B
        clear he hR3 hq hP3
        go_wp2
        go_ret2
        exact ⟨_, _, _, (by rw [HE.out]; rfl), (fun ps h => by rw [HE.out] at h; cases h), (by exact below_)⟩
      · obtain ⟨y, hy⟩ := Option.isSome_iff_exists.1 HOK.out
        obtain ⟨hq1, hq2, hq3⟩ := hq.out y hy
        subst hq1
        have HY := Lib.hid hy
        clear hy hq
        have hn3 := hq2.below hbw
        have hqv : ∀ kq, (Value.slice A len2 cap2).ownBlock = some kq → (Value.slice A0 ps.length cap0).ownBlock ≠ some kq ∧ w.heap.size ≤ kq := fun kq hkq => ⟨fun e => by have h1 := (HLT.out kq e).2; have h2 := hq3 kq hkq; omega, by have h2 := hq3 kq hkq; omega⟩
        have hkl12 := hall.out.2
        have hR4 := hR3.below ((Below.refl _ _).alloc (Nat.le_refl _) (.cells #[.int .u8 y.k.toNat, .slice A len2 cap2] 90))
        have hn4 := hn3.below ((Below.refl _ _).alloc (Nat.le_refl _) (.cells #[.int .u8 y.k.toNat, .slice A len2 cap2] 90))
        have hB4 := hR4.B.size
        have HALL := Lib.hid hkl12
        have hlen : ps.length + 1 < 4000000 := by have := HL.out; have := HLL.out; omega
        have p0 : W2.cell? ⟨bp, 0, none⟩ = some (.int .u8 y.k.toNat) := by simp [World.cell?, hP3]
        have p1 : W2.cell? ⟨bp, 1, none⟩ = some (.slice A len2 cap2) := by simp [World.cell?, hP3]
        clear hq2 hq3 hkl12 hP3
        go_wp2_with (at_builtin; refine wpList_appL rfl (.tmp 36) (.tmp 38) rfl w.heap.size _ ps _ (by rfl) hR4.p W2.heap.size 1 (by rfl) y (.slice A len2 cap2) (World.cell?_alloc_at _ _ _ _ rfl) (World.cell?_alloc_at _ _ _ _ rfl) hn4 hqv hlen hB4 ?_; intro v2 w3 hO3 hg3 hv3; refine Hid.out ?_)
        refine Lib.hid ?_
        have hR5 := hR4.grown hg3 hO3 hv3
        clear hO3 hg3 hv3 hR4 hR3 hn4 hn3 hqv hB4 p0 p1
        go_wp2
        go_roundw
        case rel => exact ⟨k + 1, ps ++ [y], by omega, by go_num, Lib.hid ⟨allM_take hall.out.1 HK.out HY.out, by rw [List.length_append, HALL.out]; rfl⟩, hR5⟩
        case measure => simp [intOf]; omega
    · obtain rfl : k = ws.length := by omega
      rw [List.take_length] at hall
      obtain ⟨h1, h2⟩ := benchS_yes HNE.out (by have := HLL.out; omega) HW.out hall.out.1
      have H1 := Lib.hid h1
      have H2 := Lib.hid h2
      have hpl := hall.out.2
      have hBq := hR.B
      have hRp := hR.p
      clear h1 h2
      go_wp2
      go_ret2
      exact ⟨A0, ps.length, cap0, (by rw [H1.out]; simp; omega), (fun ps' h => by rw [H2.out ps' h]; exact hRp), hBq⟩
end Go.Proofs.YtkdggljioekkhaaGreatDoor
