/-
  The walk of the program's reading of a bench.
-/
import Derived.Test.YtkdggljioekkhaaGreatDoorBi
namespace Go.Proofs.YtkdggljioekkhaaGreatDoor
set_option linter.unusedSimpArgs false
set_option linter.unusedVariables false
open Go.RowKit
attribute [local go_sem ↓] Go.wp_at_zero Go.wp_at_succ
/-- What the loop over the words of a bench keeps. -/
structure RB (w : World) (ws : List (List UInt8)) (v : Value) (ps : List Pc) (W : World) : Prop where
  B : Below w.heap.size w W
  t : Blk W (w.heap.size + 1) (ws.map fun l => Value.string ⟨l.toArray⟩).toArray 9
  p : Pcs 115 3 w.heap.size v ps W
  n : ∀ k, v.ownBlock = some k → k ≠ w.heap.size + 1
section
variable {w W W' : World} {ws : List (List UInt8)} {v : Value} {ps : List Pc}
theorem RB.below (h : RB w ws v ps W) (hb : Below W.heap.size W W') : RB w ws v ps W' :=
  ⟨bstep h.B hb h.B.size, (hb.block _ (blk_lt h.t)).trans h.t, h.p.below hb, h.n⟩
theorem RB.word (h : RB w ws v ps W) {k : Nat} {l : List UInt8} (hk : ws[k]? = some l) : W.cell? ⟨w.heap.size + 1, k, none⟩ = some (.string ⟨l.toArray⟩) := by
  rw [cell_of_row W _ k _ _ _ h.t]
  simp [hk]
theorem RB.grown (h : RB w ws v ps W) (hg : W.grownBy W' v.ownBlock) {v' : Value} {ps' : List Pc} (hp : Pcs 115 3 w.heap.size v' ps' W') (hv : v'.ownBlock = v.ownBlock ∨ v'.ownBlock = some W.heap.size) : RB w ws v' ps' W' := by
  have hlt := h.p.lt
  have ht := blk_lt h.t
  refine ⟨Below.grown h.B hg h.B.size (fun k e => (hlt k e).1), (hg.block _ ht (fun e => h.n _ e.symm rfl)).trans h.t, hp, fun k hk => ?_⟩
  rcases hv with hv | hv
  · exact h.n k (hv ▸ hk)
  · rw [hv] at hk
    have := Option.some.inj hk
    omega
end
theorem bench_no {l : List UInt8} {ws : List (List UInt8)} (hl : l ≠ []) (h1 : cutL 32 l = ws) (h : allM pieceI ws = none ∨ 12 < ws.length) : benchI l = none := by
  unfold benchI
  rw [if_neg hl, h1]
  cases ha : allM pieceI ws with
  | none => rfl
  | some ps =>
    rw [Option.bind_some, if_neg]
    have := allM_len ha
    rcases h with h | h
    · rw [ha] at h; cases h
    · omega
theorem bench_yes {l : List UInt8} {ws : List (List UInt8)} {ps : List Pc} (hl : l ≠ []) (h1 : cutL 32 l = ws) (h : allM pieceI ws = some ps) (hp : ps.length ≤ 12) : benchI l = some ps := by
  unfold benchI
  rw [if_neg hl, h1, h, Option.bind_some, if_pos hp]
set_option maxHeartbeats 4000000 in
theorem readBench_nil (w : World) :
    Calls Tryz.prog 101 #[.string ⟨#[]⟩] w fun e w' => ∃ v, e = .returned (.tuple #[v, .bool true]) ∧ Pcs 115 3 w.heap.size v [] w' ∧ Below w.heap.size w w' := by
  have hm := Pcs.made 115 3 w w.heap.size (Nat.le_refl _)
  go_enter Tryz.func101, Tryz.ntmps101
  go_wp2
  go_ret2
  exact ⟨_, rfl, hm, by exact below_⟩
set_option maxHeartbeats 4000000 in
theorem readBench_cons (s : ByteArray) (l : List UInt8) (hl : s.data.toList = l) (hne : l ≠ []) (w : World) (hs : s.size ≤ 1048576) (hG : GL w) :
    Calls Tryz.prog 101 #[.string s] w fun e w' => ∃ v, e = .returned (.tuple #[v, .bool (benchI l).isSome]) ∧ (benchI l = none → v = .slice none 0 0) ∧ (∀ ps, benchI l = some ps → Pcs 115 3 w.heap.size v ps w') ∧ Below w.heap.size w w' := by
  have hsz : s.size = l.length := by rw [Lib.size_eq s, hl]
  have hem : s.toList.isEmpty = false := by rw [ByteArray.toList_eq, hl]; simpa using hne
  obtain ⟨ws, hws⟩ : ∃ ws, cutL 32 l = ws := ⟨_, rfl⟩
  have hwl := cutL_len 32 l
  rw [hws] at hwl
  have hcell : ∀ W, GL W → Calls Tryz.prog 116 #[.string s, .string ⟨#[32]⟩] W fun e w' => e = .returned (.slice (some ⟨W.heap.size, 0, none⟩) ws.length ws.length) ∧ w' = W.alloc (.cells (ws.map fun l => Value.string ⟨l.toArray⟩).toArray 9) := fun W hW => by
    have := split_c s 32 W (by omega) hW
    rw [hl, hws] at this
    exact this
  have hz0 : (w.alloc (.cells #[] 115)).heap.size = w.heap.size + 1 := by simp
  have hR : RB w ws (.slice (some ⟨w.heap.size, 0, none⟩) 0 0) [] ((w.alloc (.cells #[] 115)).alloc (.cells (ws.map fun l => Value.string ⟨l.toArray⟩).toArray 9)) := by
    refine ⟨by exact below_, ?_, (Pcs.made 115 3 w w.heap.size (Nat.le_refl _)).below ((Below.refl _ _).alloc (Nat.le_refl _) _), fun k hk => ?_⟩
    · have := heap_alloc_last (w.alloc (.cells #[] 115)) (.cells (ws.map fun l => Value.string ⟨l.toArray⟩).toArray 9)
      rwa [World.size_alloc] at this
    · have := Option.some.inj hk
      simp only at this
      omega
  have hG0 : GL (w.alloc (.cells #[] 115)) := hG.below (by exact below_)
  have HW := Lib.hid hws
  have HL := Lib.hid hwl
  have HNE := Lib.hid hne
  clear hl hws hwl hne
  go_enter Tryz.func101, Tryz.ntmps101
  go_upto_region 5 with (go_at_call 116; (with_reducible refine (hcell _ hG0).mono ?_); rintro e w1 ⟨rfl, rfl⟩; rw [hz0])
  clear hz0 hG0 hcell
  go_loopw [4, 16] (fun v i wr => ∃ (k : Nat) (ps : List Pc), k ≤ ws.length ∧ i = .int .i64 k ∧ Hid (allM pieceI (ws.take k) = some ps ∧ ps.length = k ∧ k ≤ 12) ∧ RB w ws v ps wr) (fun _ i _ => ws.length - (intOf i).toNat)
  case atStart => exact ⟨0, [], Nat.zero_le _, rfl, Lib.hid ⟨rfl, rfl, by omega⟩, hR⟩
  case round =>
    clear hR
    obtain ⟨k, ps, hk, rfl, hall, hR⟩ := hrel
    have hzw := hR.B.size
    obtain ⟨A0, cap0, hv0⟩ := hR.p.slice
    subst hv0
    by_cases hkl : k < ws.length
    · obtain ⟨x, hx⟩ : ∃ x, ws[k]? = some x := ⟨_, List.getElem?_eq_getElem hkl⟩
      have hwc := hR.word hx
      have hll : x.length ≤ 1048576 := by
        have h1 : x.length ≤ (ws.map List.length).sum := mem_sum (List.mem_of_getElem? hx)
        have h2 := HL.out
        omega
      have hkb : (k : Int) + 1 ≤ 9223372036854775807 := by have := HL.out; omega
      obtain ⟨ok, hok⟩ : ∃ ok, (pieceI x).isSome = ok := ⟨_, rfl⟩
      have HOK := Lib.hid hok
      have HK := Lib.hid hx
      have hki : (k : Int) < ws.length := by omega
      clear hok hx
      go_upto_region 8 with (go_at_call 117; (with_reducible refine (readPiece_l x ok _ hll (hG.below hR.B) HOK).mono ?_); rintro e w2 ⟨kk, A, len2, cap2, b, rfl, hq, hb⟩)
      have hR2 := hR.below hb
      have hzz := hb.size
      have HLT := Lib.hid hR.p.lt
      clear hb hR hwc
      cases ok
      · have he := bench_no HNE.out HW.out (.inl (allM_none HK.out (by have := HOK.out; simpa using this)))
        have HE := Lib.hid he
        have hBq := hR2.B
        clear he hR2 hq
        go_wp2
        go_ret2
        exact ⟨_, (by rw [HE.out]; rfl), fun _ => rfl, (fun ps h => by rw [HE.out] at h; cases h), (by exact below_)⟩
      · by_cases h12 : k = 12
        · have he := bench_no HNE.out HW.out (.inr (by omega))
          have HE := Lib.hid he
          have hBq := hR2.B
          have hpl : ((ps.length : Int) == 12) = true := by rw [hall.out.2.1, h12]; rfl
          clear he hR2 hq
          go_wp2
          go_ret2
          exact ⟨_, (by rw [HE.out]; rfl), fun _ => rfl, (fun ps h => by rw [HE.out] at h; cases h), (by exact below_)⟩
        · have hpl : ((ps.length : Int) == 12) = false := by rw [hall.out.2.1]; simp; omega
          obtain ⟨y, hy⟩ := Option.isSome_iff_exists.1 HOK.out
          obtain ⟨hq1, hq2, hq3⟩ := hq.out y hy
          subst hq1
          have HY := Lib.hid hy
          clear hy hq
          obtain ⟨W2, hW2, hR3, hn3, c0, c1, c2, hz3⟩ : ∃ W, W = w2.alloc (.cells #[.int .u8 y.k.toNat, .slice A len2 cap2, .string b] 115) ∧ RB w ws (.slice A0 ps.length cap0) ps W ∧ NumsAt W (.slice A len2 cap2) y.ns ∧ W.cell? ⟨w2.heap.size, 0, none⟩ = some (.int .u8 y.k.toNat) ∧ W.cell? ⟨w2.heap.size, 1, none⟩ = some (.slice A len2 cap2) ∧ W.cell? ⟨w2.heap.size, 2, none⟩ = some (.string b) ∧ w2.heap.size < W.heap.size :=
            ⟨_, rfl, hR2.below ((Below.refl _ _).alloc (Nat.le_refl _) _), hq2.below ((Below.refl _ _).alloc (Nat.le_refl _) _), World.cell?_alloc_at _ _ _ _ rfl, World.cell?_alloc_at _ _ _ _ rfl, World.cell?_alloc_at _ _ _ _ rfl, by simp⟩
          have hqv : ∀ kq, (Value.slice A len2 cap2).ownBlock = some kq → (Value.slice A0 ps.length cap0).ownBlock ≠ some kq ∧ w.heap.size ≤ kq := fun kq hkq => ⟨fun e => by have h1 := (HLT.out kq e).2; have h2 := hq3 kq hkq; omega, by have h2 := hq3 kq hkq; omega⟩
          rw [← hW2]
          have hkl12 := hall.out.2
          have hR4 := hR3.below ((Below.refl _ _).alloc (Nat.le_refl _) (.cells #[.int .u8 y.k.toNat, .slice A len2 cap2, .string b] 115))
          have hn4 := hn3.below ((Below.refl _ _).alloc (Nat.le_refl _) (.cells #[.int .u8 y.k.toNat, .slice A len2 cap2, .string b] 115))
          have hB4 := hR4.B.size
          have HALL := Lib.hid hkl12
          have hlen : ps.length + 1 < 4000000 := by omega
          clear hW2 hR2 hq2 hq3 hkl12
          go_wp2_with (at_builtin; refine wpList_appP rfl (.tmp 32) (.tmp 34) rfl w.heap.size _ ps _ (by rfl) hR4.p W2.heap.size 1 (by rfl) y (.slice A len2 cap2) b (World.cell?_alloc_at _ _ _ _ rfl) (World.cell?_alloc_at _ _ _ _ rfl) (World.cell?_alloc_at _ _ _ _ rfl) hn4 hqv hlen hB4 ?_; intro v2 w3 hO3 hg3 hv3; refine Hid.out ?_)
          refine Lib.hid ?_
          have hR5 := hR4.grown hg3 hO3 hv3
          clear hO3 hg3 hv3 hR4 hR3 hn4 hn3 hqv hB4 c0 c1 c2
          go_wp2
          go_roundw
          case rel => exact ⟨k + 1, ps ++ [y], by omega, by go_num, Lib.hid ⟨allM_take hall.out.1 HK.out HY.out, by rw [List.length_append, HALL.out.1]; rfl, (by have := HALL.out; omega)⟩, hR5⟩
          case measure => simp [intOf]; omega
    · obtain rfl : k = ws.length := by omega
      rw [List.take_length] at hall
      have he := bench_yes HNE.out HW.out hall.out.1 (by have := hall.out.2; omega)
      have HE := Lib.hid he
      clear he
      go_wp2
      go_ret2
      exact ⟨_, (by rw [HE.out]; rfl), (fun h => by rw [HE.out] at h; cases h), (fun ps' h => by rw [HE.out] at h; obtain rfl := Option.some.inj h; exact hR.p), hR.B⟩
theorem readBench_any (s : ByteArray) (w : World) (hs : s.size ≤ 1048576) (hG : GL w) :
    Calls Tryz.prog 101 #[.string s] w fun e w' => ∃ v, e = .returned (.tuple #[v, .bool (benchI s.data.toList).isSome]) ∧ (benchI s.data.toList = none → v = .slice none 0 0) ∧ (∀ ps, benchI s.data.toList = some ps → Pcs 115 3 w.heap.size v ps w') ∧ Below w.heap.size w w' := by
  by_cases h : s.data.toList = []
  · have h0 : s = ⟨#[]⟩ := by
      have := bytes_mk s
      rw [h] at this
      exact this.symm
    subst h0
    refine (readBench_nil w).mono fun e w' ⟨v, h1, h2, h3⟩ => ⟨v, h1, (fun h => by cases h), (fun ps h => by obtain rfl := Option.some.inj h; exact h2), h3⟩
  · exact readBench_cons s _ rfl h w hs hG
end Go.Proofs.YtkdggljioekkhaaGreatDoor
