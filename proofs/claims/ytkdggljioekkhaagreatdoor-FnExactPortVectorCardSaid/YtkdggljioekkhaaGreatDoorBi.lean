/-
  The walk of the program's reading of one piece.
-/
import Derived.Test.YtkdggljioekkhaaGreatDoorBh
import Derived.Test.YtkdggljioekkhaaGreatDoorBm
import Derived.Test.YtkdggljioekkhaaGreatDoorBo
import Derived.Test.YtkdggljioekkhaaGreatDoorDi
import Derived.Laws.DeepStrings4
import Derived.WalkSpells
import Derived.Deep.CutRange
import Derived.Deep.RegionHeld3
import Derived.BigQuiet
namespace Go.Proofs.YtkdggljioekkhaaGreatDoor
set_option linter.unusedSimpArgs false
set_option linter.unusedVariables false
open Go.RowKit
attribute [local go_sem ↓] Go.wp_at_zero Go.wp_at_succ
/-- The cells of a piece. -/
def pcc (k : Int) (v : Value) (s : ByteArray) : Array Value := #[.int .u8 k, v, .string s]
theorem blk_pc {W : World} {b : Nat} {k : Int} {v : Value} {s : ByteArray} {ty : TypeId} (h : Blk W b (pcc k v s) ty) : (W.cell? ⟨b, 0, none⟩ = some (.int .u8 k) ∧ W.cell? ⟨b, 1, none⟩ = some v ∧ W.cell? ⟨b, 2, none⟩ = some (.string s)) ∧ W.frozen? ⟨b, 0, none⟩ = false ∧ W.frozen? ⟨b, 1, none⟩ = false ∧ W.frozen? ⟨b, 2, none⟩ = false := by
  refine ⟨⟨?_, ?_, ?_⟩, ?_, ?_, ?_⟩ <;> simp [World.cell?, World.frozen?, h, pcc]
theorem blk_set1 {W : World} {b : Nat} {k : Int} {v : Value} {s : ByteArray} {ty : TypeId} (h : Blk W b (pcc k v s) ty) (u : Value) : Blk (W.setCell ⟨b, 1, none⟩ u) b (pcc k u s) ty := by
  simp [Blk, World.setCell, Array.getElem?_modify, h, pcc]
/-- What the loop over the words of a piece keeps. -/
structure RP (w : World) (s : ByteArray) (c : UInt8) (ws : List (List UInt8)) (v : Value) (ns : List Int) (W : World) : Prop where
  B : Below w.heap.size w W
  r : Blk W w.heap.size (pcc 0 (.slice none 0 0) ⟨#[]⟩) 115
  p : Blk W (w.heap.size + 1) (pcc c.toNat v s) 115
  n : OwI (w.heap.size + 3) v ns W
  t : Blk W (w.heap.size + 2) (ws.map fun l => Value.string ⟨l.toArray⟩).toArray 9
section
variable {w W W' : World} {s : ByteArray} {c : UInt8} {ws : List (List UInt8)} {v : Value} {ns : List Int}
theorem RP.below (h : RP w s c ws v ns W) (hb : Below W.heap.size W W') : RP w s c ws v ns W' :=
  ⟨bstep h.B hb h.B.size, (hb.block _ (blk_lt h.r)).trans h.r, (hb.block _ (blk_lt h.p)).trans h.p, h.n.below hb, (hb.block _ (blk_lt h.t)).trans h.t⟩
theorem RP.word (h : RP w s c ws v ns W) {k : Nat} {l : List UInt8} (hk : ws[k]? = some l) : W.cell? ⟨w.heap.size + 2, k, none⟩ = some (.string ⟨l.toArray⟩) := by
  rw [cell_of_row W _ k _ _ _ h.t]
  simp [hk]
theorem RP.grown (h : RP w s c ws v ns W) (hg : W.grownBy W' v.ownBlock) {v' : Value} {ns' : List Int} (hn : OwI (w.heap.size + 3) v' ns' W') : RP w s c ws v' ns' (W'.setCell ⟨w.heap.size + 1, 1, none⟩ v') := by
  have hlt := h.n.lt
  have hz := h.B.size
  have keep : ∀ b, b < w.heap.size + 3 → b < W.heap.size → W'.heap[b]? = W.heap[b]? := fun b h1 h2 => hg.block b h2 (fun e => by have := (hlt b e.symm).1; omega)
  have r' := (keep _ (by omega) (blk_lt h.r)).trans h.r
  have p' := (keep _ (by omega) (blk_lt h.p)).trans h.p
  have t' := (keep _ (by omega) (blk_lt h.t)).trans h.t
  refine ⟨?_, (Below.heap_setCell _ _ _ _ (by simp)).trans r', blk_set1 p' v', ?_, (Below.heap_setCell _ _ _ _ (by simp)).trans t'⟩
  · have h1 : Below w.heap.size w W' := Below.grown h.B hg h.B.size (fun k e => by have := (hlt k e).1; omega)
    exact h1.setCell (by simp) _
  · exact hn.far (fun k e => by have := (hn.lt k e).1; simp; omega) _
end
theorem mem_sum : ∀ {ws : List (List UInt8)} {l : List UInt8}, l ∈ ws → l.length ≤ (ws.map List.length).sum
  | w :: ws, l, h => by
    rw [List.map_cons, List.sum_cons]
    rcases List.mem_cons.1 h with rfl | h
    · omega
    · have := mem_sum h
      omega
theorem ext_tail {s : ByteArray} {c : UInt8} {r : List UInt8} (h : s.data.toList = c :: r) : (s.extract 1 s.size).data.toList = r := by
  have h2 : s.size = r.length + 1 := by rw [Lib.size_eq s, h]; rfl
  rw [ByteArray.data_extract, Array.toList_extract, h, h2]
  simp [List.extract]
theorem get_head {s : ByteArray} {c : UInt8} {r : List UInt8} (h : s.data.toList = c :: r) (h0 : 0 < s.size) : s[0]'h0 = c := by
  have : s.data[0]'h0 = c := by
    have h3 : s.data.toList[0]? = some c := by rw [h]; rfl
    rw [Array.getElem?_toList, Array.getElem?_eq_getElem h0] at h3
    exact Option.some.inj h3
  exact this
theorem pc_fin {c : UInt8} {r : List UInt8} {ws : List (List UInt8)} {ns : List Int} {b : Bool} (h1 : cutL 58 r = ws) (h2 : allM numI ws = some ns) (h3 : pcOk c ns = b) : (pieceI (c :: r)).isSome = b ∧ ∀ x, pieceI (c :: r) = some x → x = ⟨c, ns⟩ := by
  rw [pieceI, h1, h2, Option.bind_some, h3]
  cases b
  · exact ⟨rfl, fun x h => by cases h⟩
  · exact ⟨rfl, fun x h => (Option.some.inj h).symm⟩
theorem pc_len3 {ns : List Int} (h : ¬ ns.length = 3) : pcOk 119 ns = false := by
  match ns, h with
  | [], _ => rfl
  | [_], _ => rfl
  | [p, q], _ => rfl
  | [_, _, _], h => exact absurd rfl h
  | _ :: _ :: _ :: _ :: _, _ => rfl
theorem pc_len2 {c : UInt8} {ns : List Int} (hc : ¬ c = 119) (h : ¬ ns.length = 2) : pcOk c ns = false := by
  match ns, h with
  | [], _ => rfl
  | [_], _ => rfl
  | [p, q], h => exact absurd rfl h
  | [p, q, n], _ =>
    show (if c = 119 then dirOk p q && inB n 0 3 else false) = false
    rw [if_neg hc]
  | _ :: _ :: _ :: _ :: _, _ => rfl
theorem u8_ne {c k : UInt8} (h : ¬ c = k) : ((c.toNat : Int) == (k.toNat : Int)) = false := by
  rw [beq_eq_false_iff_ne]
  intro e
  exact h (UInt8.toNat_inj.1 (by omega))
theorem far3 {W : World} {g b o : Nat} {x y z : Value} (h : b ≠ g) : (((W.setCell ⟨g, 0, none⟩ x).setCell ⟨g, 1, none⟩ y).setCell ⟨g, 2, none⟩ z).cell? ⟨b, o, none⟩ = W.cell? ⟨b, o, none⟩ :=
  World.cell?_of_block ((Below.heap_setCell _ _ _ b h).trans ((Below.heap_setCell _ _ _ b h).trans (Below.heap_setCell _ _ _ b h)))
theorem NumsAt.far {w : World} {v : Value} {ns : List Int} (h : NumsAt w v ns) {p : Addr} (hp : ∀ k, v.ownBlock = some k → k ≠ p.block) (u : Value) : NumsAt (w.setCell p u) v ns := by
  obtain ⟨g, cap, rfl, h2, h3, h4, h5⟩ := h
  refine ⟨g, cap, rfl, h2, h3, by simpa using h4, fun j n hj => ?_⟩
  rw [World.cell?_of_block (Below.heap_setCell w p u g (hp g rfl))]
  exact h5 j n hj
theorem NumsAt.drew {w : World} {v : Value} {ns : List Int} (h : NumsAt w v ns) : NumsAt w.drew v ns := h
theorem NumsAt.drewN {w : World} {v : Value} {ns : List Int} (h : NumsAt w v ns) (n : Nat) : NumsAt (w.drewN n) v ns := h
theorem direction_o (p q : Int) (told : Bool) (w : World) (h : Hid (dirOk p q = told)) : Calls Tryz.prog 127 #[.int .i64 p, .int .i64 q] w fun e w' => ∃ cc ss : Fr, e = .returned (.tuple #[frv cc, frv ss, .bool told]) ∧ Below w.heap.size w w' := by
  cases told
  · exact (direction_f p q w h.out).mono fun e w' ⟨h1, h2⟩ => ⟨_, _, h1, h2⟩
  · exact (direction_t p q w h.out).mono fun e w' ⟨h1, h2⟩ => ⟨_, _, h1, h2⟩
/-- The letter and the numbers of a piece, to be read in a later world. -/
def CP (pb g cap : Nat) (c : UInt8) (s : ByteArray) (n0 n1 : Int) (len : Nat) (w' : World) : Prop := w'.cell? ⟨pb, 0, none⟩ = some (.int .u8 c.toNat) ∧ w'.cell? ⟨pb, 1, none⟩ = some (.slice (some ⟨g, 0, none⟩) len cap) ∧ w'.cell? ⟨pb, 2, none⟩ = some (.string s) ∧ w'.cell? ⟨g, 0, none⟩ = some (.int .i64 n0) ∧ w'.cell? ⟨g, 1, none⟩ = some (.int .i64 n1)
theorem CP.of {pb g cap : Nat} {c : UInt8} {s : ByteArray} {n0 n1 : Int} {len : Nat} {w W : World} (h : CP pb g cap c s n0 n1 len w) (h1 : pb < w.heap.size) (h2 : g < w.heap.size) (hb : Below w.heap.size w W) : CP pb g cap c s n0 n1 len W :=
  ⟨(hb.cell (p := ⟨_, _, _⟩) h1).trans h.1, (hb.cell (p := ⟨_, _, _⟩) h1).trans h.2.1, (hb.cell (p := ⟨_, _, _⟩) h1).trans h.2.2.1, (hb.cell (p := ⟨_, _, _⟩) h2).trans h.2.2.2.1, (hb.cell (p := ⟨_, _, _⟩) h2).trans h.2.2.2.2⟩
set_option maxHeartbeats 4000000 in
theorem readPiece_nil (w : World) :
    Calls Tryz.prog 117 #[.string ⟨#[]⟩] w fun e w' => e = .returned (.tuple #[.agg #[.int .u8 0, .slice none 0 0, .string ⟨#[]⟩], .bool false]) ∧ Below w.heap.size w w' := by
  go_enter Tryz.func117, Tryz.ntmps117
  go_wp2
  exact bodyPost_ret (v := .tuple #[.agg #[.int .u8 0, .slice none 0 0, .string ⟨#[]⟩], .bool false]) (by simp [results, Tryz.results117, go_sem, *]) rfl ⟨rfl, by exact below_⟩
set_option maxHeartbeats 40000000 in
theorem readPiece_cons (s : ByteArray) (c : UInt8) (r : List UInt8) (hl : s.data.toList = c :: r) (w : World) (hs : s.size ≤ 1048576) (hG : GL w) :
    Calls Tryz.prog 117 #[.string s] w fun e w' => ∃ kk A len cap b, e = .returned (.tuple #[.agg #[.int .u8 kk, .slice A len cap, .string b], .bool (pieceI (c :: r)).isSome]) ∧
      (∀ x, pieceI (c :: r) = some x → kk = x.k.toNat ∧ NumsAt w' (.slice A len cap) x.ns ∧ ∀ k, (Value.slice A len cap).ownBlock = some k → w.heap.size ≤ k) ∧ Below w.heap.size w w' := by
  have hsz : s.size = r.length + 1 := by rw [Lib.size_eq s, hl]; rfl
  have hne : s.toList.isEmpty = false := by rw [ByteArray.toList_eq, hl]; rfl
  have h0 := get_head hl (by omega)
  have ht := ext_tail hl
  obtain ⟨ws, hws⟩ : ∃ ws, cutL 58 r = ws := ⟨_, rfl⟩
  have hwl := cutL_len 58 r
  rw [hws] at hwl
  have hcell : ∀ W, GL W → Calls Tryz.prog 116 #[.string (s.extract 1 (r.length + 1)), .string ⟨#[58]⟩] W fun e w' => e = .returned (.slice (some ⟨W.heap.size, 0, none⟩) ws.length ws.length) ∧ w' = W.alloc (.cells (ws.map fun l => Value.string ⟨l.toArray⟩).toArray 9) := fun W hW => by
    have := split_c (s.extract 1 s.size) 58 W (by rw [ByteArray.size_extract]; omega) hW
    rw [ht, hws, hsz] at this
    exact this
  obtain ⟨W0, hW0, hR⟩ : ∃ W, W = (w.alloc (.cells #[.int .u8 0, .slice none 0 0, .string ⟨#[]⟩] 115)).alloc (.cells #[.int .u8 c.toNat, .slice none 0 0, .string s] 115) ∧ RP w s c ws (.slice none 0 0) [] (W.alloc (.cells (ws.map fun l => Value.string ⟨l.toArray⟩).toArray 9)) := by
    refine ⟨_, rfl, by exact below_, ?_, ?_, OwI.nil _ _, ?_⟩
    · exact (Below.heap_alloc _ _ _ (by simp; omega)).trans ((Below.heap_alloc _ _ _ (by simp)).trans (heap_alloc_last w _))
    · refine (Below.heap_alloc _ _ _ (by simp)).trans ?_
      have := heap_alloc_last (w.alloc (.cells #[.int .u8 0, .slice none 0 0, .string ⟨#[]⟩] 115)) (.cells #[.int .u8 c.toNat, .slice none 0 0, .string s] 115)
      rwa [World.size_alloc] at this
    · have := heap_alloc_last ((w.alloc (.cells #[.int .u8 0, .slice none 0 0, .string ⟨#[]⟩] 115)).alloc (.cells #[.int .u8 c.toNat, .slice none 0 0, .string s] 115)) (.cells (ws.map fun l => Value.string ⟨l.toArray⟩).toArray 9)
      rwa [World.size_alloc, World.size_alloc] at this
  have hz0 : W0.heap.size = w.heap.size + 1 + 1 := by rw [hW0]; simp
  have hG0 : GL W0 := by rw [hW0]; exact hG.below (by exact below_)
  have HS := Lib.hid hl
  have HW := Lib.hid hws
  have HL := Lib.hid hwl
  have H0 := Lib.hid h0
  clear hl hws hwl ht
  go_enter Tryz.func117, Tryz.ntmps117
  go_upto_region 5 with fail
  rw [← hW0]
  clear hW0 H0 h0
  go_upto_region 6 with (go_at_call 116; (with_reducible refine (hcell _ hG0).mono ?_); rintro e w1 ⟨rfl, rfl⟩; rw [hz0])
  clear hz0 hG0 hcell
  go_loopw [25] (fun i wr => ∃ (k : Nat) (v : Value) (ns : List Int), k ≤ ws.length ∧ i = .int .i64 k ∧ Hid (allM numI (ws.take k) = some ns ∧ ns.length = k) ∧ RP w s c ws v ns wr) (fun i _ => ws.length - (intOf i).toNat)
  case atStart => exact ⟨0, _, [], Nat.zero_le _, rfl, Lib.hid ⟨rfl, rfl⟩, hR⟩
  case round =>
    clear hR
    obtain ⟨k, v, ns, hk, rfl, hall, hR⟩ := hrel
    have hzw := hR.B.size
    by_cases hkl : k < ws.length
    · obtain ⟨l, hl⟩ : ∃ l, ws[k]? = some l := ⟨_, List.getElem?_eq_getElem hkl⟩
      have hwc := hR.word hl
      have hll : l.length ≤ 1048576 := by
        have h1 : l.length ≤ (ws.map List.length).sum := mem_sum (List.mem_of_getElem? hl)
        have h2 := HL.out
        omega
      obtain ⟨ok, hok⟩ : ∃ ok, (numI l).isSome = ok := ⟨_, rfl⟩
      have HOK := Lib.hid hok
      have HK := Lib.hid hl
      have hki : (k : Int) < ws.length := by omega
      clear hok hl
      go_upto_region 9 with (go_at_call 126; (with_reducible refine (plain_l l ok _ (by omega) (hG.below hR.B) HOK).mono ?_); rintro e w2 ⟨n, rfl, hn, hb⟩)
      have hR2 := hR.below hb
      clear hb hR hwc
      obtain ⟨⟨p0, p1, p2⟩, f0, f1, f2⟩ := blk_pc hR2.p
      obtain ⟨⟨r0, r1, r2⟩, g0, g1, g2⟩ := blk_pc hR2.r
      obtain ⟨A, cap, rfl⟩ := hR2.n.slice
      cases ok
      · have he : pieceI (c :: r) = none := by
          rw [pieceI, HW.out, allM_none HK.out (by have := HOK.out; simpa using this)]
          rfl
        have HE := Lib.hid he
        have hBq := hR2.B
        clear he hR2
        go_wp2
        exact bodyPost_ret (v := .tuple #[.agg #[.int .u8 c.toNat, .slice A ns.length cap, .string s], .bool false]) (by simp [results, Tryz.results117, go_sem, *]) rfl ⟨_, _, _, _, _, by rw [HE.out]; rfl, fun x h => (by rw [HE.out] at h; cases h), by exact below_⟩
      · have hnl := hall.out.2
        have hbz : w.heap.size + 3 ≤ (w2.alloc (.cells #[.int .i64 n] 3)).heap.size := by have := blk_lt hR2.t; simp; omega
        have hnn : numI l = some n := by
          obtain ⟨m, hm⟩ := Option.isSome_iff_exists.1 HOK.out
          rw [hn.out m hm, hm]
        have HN := Lib.hid hnn
        have hlen : ns.length + 1 < 4000000 := by have := HL.out; omega
        have HNL := Lib.hid hnl
        clear hnn hnl
        go_wp2_with (at_builtin; refine wpList_appI rfl (.tmp 38) (.tmp 40) rfl (w.heap.size + 3) _ ns _ (by rfl) (hR2.n.below ((Below.refl _ _).alloc (Nat.le_refl _) _)) w2.heap.size 1 n (by rfl) (World.cell?_alloc_at _ _ _ _ rfl) hlen hbz ?_; intro v2 w3 hO3 hg3; refine Hid.out ?_)
        refine Lib.hid ?_
        have hR3 := (hR2.below ((Below.refl _ _).alloc (Nat.le_refl _) (.cells #[.int .i64 n] 3))).grown hg3 hO3
        have hG3 : w2.grownBy w3 (Value.slice A ns.length cap).ownBlock := (World.grownBy_alloc _ _ _).trans hg3
        have hkeep : w3.heap[w.heap.size + 1]? = w2.heap[w.heap.size + 1]? := hG3.block _ (blk_lt hR2.p) (fun e => by have := (hR2.n.lt _ e.symm).1; omega)
        obtain ⟨⟨q0, q1, q2⟩, h0, h1, h2⟩ := blk_pc (W := w3) (hkeep.trans hR2.p)
        obtain ⟨A2, cap2, e2⟩ := hO3.slice
        subst e2
        rw [List.length_append] at hR3 hO3
        have hkb : (k : Int) + 1 ≤ 9223372036854775807 := by have := HL.out; omega
        clear hO3 hg3 hG3 hkeep hR2 p0 p1 p2 f0 f1 f2 r0 r1 r2 g0 g1 g2 hbz
        go_wp2
        go_roundw
        case rel => exact ⟨k + 1, _, ns ++ [n], by omega, by go_num, Lib.hid ⟨allM_take hall.out.1 HK.out HN.out, by rw [List.length_append, HNL.out]; rfl⟩, hR3⟩
        case measure => simp [intOf]; omega
    · obtain rfl : k = ws.length := by omega
      rw [List.take_length] at hall
      obtain ⟨hall, hnl⟩ := hall.out
      have HA := Lib.hid hall
      clear hall
      by_cases h3 : c = 119
      · subst h3
        by_cases hn3 : ns.length = 3
        · obtain ⟨n0, n1, n2, rfl⟩ : ∃ n0 n1 n2, ns = [n0, n1, n2] := by
            match ns, hn3 with
            | [a, b, d], _ => exact ⟨a, b, d, rfl⟩
          obtain ⟨g, cap, rfl, hcap, hcapm, hgb, hgl, hgc⟩ := hR.n.at (by simp)
          have hC : CP (w.heap.size + 1) g cap 119 s n0 n1 3 wr := by
            obtain ⟨⟨p0, p1, p2⟩, -⟩ := blk_pc hR.p
            exact ⟨p0, p1, p2, hgc 0 n0 rfl, hgc 1 n1 rfl⟩
          have hc2 := hgc 2 n2 rfl
          have hpl := blk_lt hR.p
          obtain ⟨told, htold⟩ : ∃ t, dirOk n0 n1 = t := ⟨_, rfl⟩
          have HT := Lib.hid htold
          clear htold
          obtain ⟨p0, p1, p2, d0, d1⟩ := hC
          have hC : CP (w.heap.size + 1) g cap 119 s n0 n1 3 wr := ⟨p0, p1, p2, d0, d1⟩
          go_upto_region 18 with fail
          go_cut [12, 10, 11] from 53 to 65 (fun s12 _ _ wx => s12 = .bool told ∧ Below wr.heap.size wr wx)
          case first =>
            go_region_held3 (fun w' => w'.cell? ⟨w.heap.size + 1, 0, none⟩ = some (.int .u8 ((119 : UInt8)).toNat) ∧ w'.cell? ⟨w.heap.size + 1, 1, none⟩ = some (.slice (some ⟨g, 0, none⟩) 3 cap) ∧ w'.cell? ⟨w.heap.size + 1, 2, none⟩ = some (.string s) ∧ w'.cell? ⟨g, 0, none⟩ = some (.int .i64 n0) ∧ w'.cell? ⟨g, 1, none⟩ = some (.int .i64 n1)) ((refine hC.of hpl hgl ?_; (repeat' (first | (with_reducible exact Below.refl _ _) | (with_reducible assumption) | (with_reducible refine Below.setCell ?_ (by first | omega | (simp; done) | (simp; omega)) _) | (with_reducible refine Below.alloc ?_ (by first | omega | (simp; done) | (simp; omega)) _) | (with_reducible refine below_drewN ?_ _) | (with_reducible refine Below.drew ?_))))) (first | (go_at_call 127; (with_reducible refine (direction_o n0 n1 told _ HT).mono ?_); rintro e w1 ⟨cc, ss, rfl, hb⟩; obtain ⟨hc, hf⟩ := bf hb (wr.heap.size) side_; have hs := hb.size; (try simp only [World.size_alloc, World.size_setCell, World.size_drew, World.heap_drewN] at hs); have hl : wr.heap.size ≤ w1.heap.size := (by omega); obtain ⟨B, hBe, hBl, hc2, hf2⟩ := bfA hb; (try simp only [World.size_alloc, World.size_setCell, World.size_drew, World.heap_drewN] at hBe); have hB : Below wr.heap.size wr w1 := bstep (by exact below_) hb side_; clear hs hb))
            all_goals (go_wp2; go_meet; exact ⟨rfl, by exact below_⟩)
          obtain ⟨rfl, hB⟩ := hcut
          have hR2 := hR.below hB
          have hnm := NumsAt.of hR2.n (by simp)
          have hBw := hR2.B
          have e0 : wc.cell? ⟨g, 0, none⟩ = some (.int .i64 n0) := (hB.cell (p := ⟨_, _, _⟩) hgl).trans d0
          have e1 : wc.cell? ⟨g, 1, none⟩ = some (.int .i64 n1) := (hB.cell (p := ⟨_, _, _⟩) hgl).trans d1
          have e2 : wc.cell? ⟨g, 2, none⟩ = some (.int .i64 n2) := (hB.cell (p := ⟨_, _, _⟩) hgl).trans hc2
          clear p0 p1 p2 d0 d1
          obtain ⟨⟨p0, p1, p2⟩, f0, f1, f2⟩ := blk_pc hR2.p
          obtain ⟨⟨r0, r1, r2⟩, g0, g1, g2⟩ := blk_pc hR2.r
          have hgz : ∀ k, (Value.slice (some ⟨g, 0, none⟩) 3 cap).ownBlock = some k → w.heap.size + 3 ≤ k := fun k hk => by
            obtain rfl : g = k := Option.some.inj hk
            exact hgb
          have hzz : w.heap.size < wc.heap.size := blk_lt hR2.r
          have hnm : NumsAt wc (.slice (some ⟨g, 0, none⟩) 3 cap) [n0, n1, n2] := hnm
          have p1 : wc.cell? ⟨w.heap.size + 1, 1, none⟩ = some (.slice (some ⟨g, 0, none⟩) 3 cap) := p1
          clear hR2 hB hC hR hgc hc2 hcap hcapm hpl hs hG hsz hne HL hzw hk hkl HS hall hnl hn3 f0 f1 f2
          cases told
          · skip
            obtain ⟨F1, F2⟩ := pc_fin HW.out HA.out (c := 119) (b := false) (by show (if (119 : UInt8) = 119 then dirOk n0 n1 && inB n2 0 3 else false) = _; rw [if_pos rfl, HT.out]; rfl)
            have HF := Lib.hid (And.intro F1 F2)
            clear F1 F2
            go_upto_region 24 with fail
            refine wp_region_noPanic ?_
            refine wp_region_held_drew (S := fun w' => w'.cell? ⟨w.heap.size + 1, 0, none⟩ = some (.int .u8 ((119 : UInt8)).toNat) ∧ w'.cell? ⟨w.heap.size + 1, 1, none⟩ = some (.slice (some ⟨g, 0, none⟩) 3 cap) ∧ w'.cell? ⟨w.heap.size + 1, 2, none⟩ = some (.string s) ∧ w'.cell? ⟨g, 0, none⟩ = some (.int .i64 n0) ∧ w'.cell? ⟨g, 1, none⟩ = some (.int .i64 n1) ∧ w'.cell? ⟨g, 2, none⟩ = some (.int .i64 n2)) (by kernel_rfl) ?_ (fun hHeld => ?_)
            · (try dsimp only)
              (first | exact hHeld | (exact ⟨(far3 (by omega)).trans p0, (far3 (by omega)).trans p1, (far3 (by omega)).trans p2, (far3 (by omega)).trans e0, (far3 (by omega)).trans e1, (far3 (by omega)).trans e2⟩) | (exact ⟨p0, p1, p2, e0, e1, e2⟩))
            refine wpAnyH_take (i := 0) (v := ?vq1) (by simp; rfl) (by kernel_rfl) (by kernel_rfl) (by kernel_rfl) (fun _ _ _ h => h) (Or.inl ⟨by rfl, ?yq1⟩) (by assumption) ?rq1
            case yq1 => (intro w' hSw; obtain ⟨s0, s1, s2, s3, s4, s5⟩ := hSw; (try dsimp only at s0 s1 s2 s3 s4 s5); go_simp; first | done | with_reducible rfl)
            (try simp only [Act.put, List.setIfInBounds_toArray, List.set_cons_zero, List.set_cons_succ])
            refine wpAnyH_take (i := 1) (v := ?vq2) (by simp; rfl) (by kernel_rfl) (by kernel_rfl) (by kernel_rfl) (fun _ _ _ h => h) (Or.inl ⟨by rfl, ?yq2⟩) (by assumption) ?rq2
            case yq2 => (intro w' hSw; obtain ⟨s0, s1, s2, s3, s4, s5⟩ := hSw; (try dsimp only at s0 s1 s2 s3 s4 s5); go_simp; first | done | with_reducible rfl)
            (try simp only [Act.put, List.setIfInBounds_toArray, List.set_cons_zero, List.set_cons_succ])
            refine wpAnyH_take (i := 2) (v := ?vq3) (by simp; rfl) (by kernel_rfl) (by kernel_rfl) (by kernel_rfl) (fun _ _ _ h => h) (Or.inl ⟨by rfl, ?yq3⟩) (by assumption) ?rq3
            case yq3 => (intro w' hSw; obtain ⟨s0, s1, s2, s3, s4, s5⟩ := hSw; (try dsimp only at s0 s1 s2 s3 s4 s5); go_simp; first | done | with_reducible rfl)
            (try simp only [Act.put, List.setIfInBounds_toArray, List.set_cons_zero, List.set_cons_succ])
            refine wpAnyH_take (i := 3) (v := undef) (by simp; rfl) (by kernel_rfl) (by kernel_rfl) (by kernel_rfl) (fun _ _ _ h => h) (Or.inr ⟨by rfl, rfl⟩) (by assumption) ?_
            (try simp only [Act.put, List.setIfInBounds_toArray, List.set_cons_zero, List.set_cons_succ])
            refine wpAnyH_take (i := 4) (v := undef) (by simp; rfl) (by kernel_rfl) (by kernel_rfl) (by kernel_rfl) (fun _ _ _ h => h) (Or.inr ⟨by rfl, rfl⟩) (by assumption) ?_
            (try simp only [Act.put, List.setIfInBounds_toArray, List.set_cons_zero, List.set_cons_succ])
            refine wpAnyH_take (i := 5) (v := undef) (by simp; rfl) (by kernel_rfl) (by kernel_rfl) (by kernel_rfl) (fun _ _ _ h => h) (Or.inr ⟨by rfl, rfl⟩) (by assumption) ?_
            (try simp only [Act.put, List.setIfInBounds_toArray, List.set_cons_zero, List.set_cons_succ])
            refine wpAnyH_take (i := 6) (v := undef) (by simp; rfl) (by kernel_rfl) (by kernel_rfl) (by kernel_rfl) (fun _ _ _ h => h) (Or.inr ⟨by rfl, rfl⟩) (by assumption) ?_
            (try simp only [Act.put, List.setIfInBounds_toArray, List.set_cons_zero, List.set_cons_succ])
            refine wpAnyH_take (i := 7) (v := undef) (by simp; rfl) (by kernel_rfl) (by kernel_rfl) (by kernel_rfl) (fun _ _ _ h => h) (Or.inr ⟨by rfl, rfl⟩) (by assumption) ?_
            (try simp only [Act.put, List.setIfInBounds_toArray, List.set_cons_zero, List.set_cons_succ])
            refine wpAnyH_take (i := 8) (v := ?vq9) (by simp; rfl) (by kernel_rfl) (by kernel_rfl) (by kernel_rfl) (fun _ _ _ h => h) (Or.inl ⟨by rfl, ?yq9⟩) (by assumption) ?rq9
            case yq9 => (intro w' hSw; obtain ⟨s0, s1, s2, s3, s4, s5⟩ := hSw; (try dsimp only at s0 s1 s2 s3 s4 s5); go_simp; first | done | with_reducible rfl)
            (try simp only [Act.put, List.setIfInBounds_toArray, List.set_cons_zero, List.set_cons_succ])
            refine wpAnyH_ready (rs := [9]) (by kernel_rfl) (by simp) ?_
            refine AllReadyH.cons (by simp; rfl) (fun K hK => ?_) AllReadyH.nil
            go_simp
            go_wp2
            refine hK.out _ _ ?_ (fun hHeld => ?_)
            · (try dsimp only)
              (first | exact hHeld | (exact ⟨(far3 (by omega)).trans p0, (far3 (by omega)).trans p1, (far3 (by omega)).trans p2, (far3 (by omega)).trans e0, (far3 (by omega)).trans e1, (far3 (by omega)).trans e2⟩) | (exact ⟨p0, p1, p2, e0, e1, e2⟩))
            clear hK K
            (try simp only [Act.put, List.setIfInBounds_toArray, List.set_cons_zero, List.set_cons_succ])
            refine wpAnyH_take (i := 10) (v := ?vq11) (by simp; rfl) (by kernel_rfl) (by kernel_rfl) (by kernel_rfl) (fun _ _ _ h => h) (Or.inl ⟨by rfl, ?yq11⟩) (by assumption) ?rq11
            case yq11 => (intro w' hSw; obtain ⟨s0, s1, s2, s3, s4, s5⟩ := hSw; (try dsimp only at s0 s1 s2 s3 s4 s5); go_simp; first | done | with_reducible rfl)
            (try simp only [Act.put, List.setIfInBounds_toArray, List.set_cons_zero, List.set_cons_succ])
            refine wpAnyH_done (by kernel_rfl) ?_ _
            refine NoPanic.normal ?_
            go_wp2
            all_goals exact bodyPost_ret (v := .tuple #[.agg #[.int .u8 119, .slice (some ⟨g, 0, none⟩) 3 cap, .string s], .bool (false)]) (by simp [results, Tryz.results117, go_sem, *]) rfl ⟨_, _, _, _, _, (by rw [HF.out.1]), (fun x hx => by
              obtain rfl := HF.out.2 x hx
              exact ⟨rfl, (by (repeat' (first | exact hnm | (refine NumsAt.far ?_ (fun k hk => by have := hgz k hk; simp; omega) _) | (apply NumsAt.drewN) | (apply NumsAt.drew)))), fun k hk => by have := hgz k hk; omega⟩), (by exact below_)⟩
          · skip
            obtain ⟨F1, F2⟩ := pc_fin HW.out HA.out (c := 119) (b := inB n2 0 3) (by show (if (119 : UInt8) = 119 then dirOk n0 n1 && inB n2 0 3 else false) = _; rw [if_pos rfl, HT.out, Bool.true_and])
            have HF := Lib.hid (And.intro F1 F2)
            clear F1 F2
            go_upto_region 24 with fail
            refine wp_region_noPanic ?_
            refine wp_region_held_drew (S := fun w' => w'.cell? ⟨w.heap.size + 1, 0, none⟩ = some (.int .u8 ((119 : UInt8)).toNat) ∧ w'.cell? ⟨w.heap.size + 1, 1, none⟩ = some (.slice (some ⟨g, 0, none⟩) 3 cap) ∧ w'.cell? ⟨w.heap.size + 1, 2, none⟩ = some (.string s) ∧ w'.cell? ⟨g, 0, none⟩ = some (.int .i64 n0) ∧ w'.cell? ⟨g, 1, none⟩ = some (.int .i64 n1) ∧ w'.cell? ⟨g, 2, none⟩ = some (.int .i64 n2)) (by kernel_rfl) ?_ (fun hHeld => ?_)
            · (try dsimp only)
              (first | exact hHeld | (exact ⟨(far3 (by omega)).trans p0, (far3 (by omega)).trans p1, (far3 (by omega)).trans p2, (far3 (by omega)).trans e0, (far3 (by omega)).trans e1, (far3 (by omega)).trans e2⟩) | (exact ⟨p0, p1, p2, e0, e1, e2⟩))
            refine wpAnyH_take (i := 0) (v := ?vq12) (by simp; rfl) (by kernel_rfl) (by kernel_rfl) (by kernel_rfl) (fun _ _ _ h => h) (Or.inl ⟨by rfl, ?yq12⟩) (by assumption) ?rq12
            case yq12 => (intro w' hSw; obtain ⟨s0, s1, s2, s3, s4, s5⟩ := hSw; (try dsimp only at s0 s1 s2 s3 s4 s5); go_simp; first | done | with_reducible rfl)
            (try simp only [Act.put, List.setIfInBounds_toArray, List.set_cons_zero, List.set_cons_succ])
            refine wpAnyH_take (i := 1) (v := ?vq13) (by simp; rfl) (by kernel_rfl) (by kernel_rfl) (by kernel_rfl) (fun _ _ _ h => h) (Or.inl ⟨by rfl, ?yq13⟩) (by assumption) ?rq13
            case yq13 => (intro w' hSw; obtain ⟨s0, s1, s2, s3, s4, s5⟩ := hSw; (try dsimp only at s0 s1 s2 s3 s4 s5); go_simp; first | done | with_reducible rfl)
            (try simp only [Act.put, List.setIfInBounds_toArray, List.set_cons_zero, List.set_cons_succ])
            refine wpAnyH_take (i := 2) (v := ?vq14) (by simp; rfl) (by kernel_rfl) (by kernel_rfl) (by kernel_rfl) (fun _ _ _ h => h) (Or.inl ⟨by rfl, ?yq14⟩) (by assumption) ?rq14
            case yq14 => (intro w' hSw; obtain ⟨s0, s1, s2, s3, s4, s5⟩ := hSw; (try dsimp only at s0 s1 s2 s3 s4 s5); go_simp; first | done | with_reducible rfl)
            (try simp only [Act.put, List.setIfInBounds_toArray, List.set_cons_zero, List.set_cons_succ])
            refine wpAnyH_take (i := 3) (v := ?vq15) (by simp; rfl) (by kernel_rfl) (by kernel_rfl) (by kernel_rfl) (fun _ _ _ h => h) (Or.inl ⟨by rfl, ?yq15⟩) (by assumption) ?rq15
            case yq15 => (intro w' hSw; obtain ⟨s0, s1, s2, s3, s4, s5⟩ := hSw; (try dsimp only at s0 s1 s2 s3 s4 s5); go_simp; first | done | with_reducible rfl)
            (try simp only [Act.put, List.setIfInBounds_toArray, List.set_cons_zero, List.set_cons_succ])
            refine wpAnyH_take (i := 4) (v := ?vq16) (by simp; rfl) (by kernel_rfl) (by kernel_rfl) (by kernel_rfl) (fun _ _ _ h => h) (Or.inl ⟨by rfl, ?yq16⟩) (by assumption) ?rq16
            case yq16 => (intro w' hSw; obtain ⟨s0, s1, s2, s3, s4, s5⟩ := hSw; (try dsimp only at s0 s1 s2 s3 s4 s5); go_simp; first | done | with_reducible rfl)
            (try simp only [Act.put, List.setIfInBounds_toArray, List.set_cons_zero, List.set_cons_succ])
            refine wpAnyH_take (i := 5) (v := ?vq17) (by simp; rfl) (by kernel_rfl) (by kernel_rfl) (by kernel_rfl) (fun _ _ _ h => h) (Or.inl ⟨by rfl, ?yq17⟩) (by assumption) ?rq17
            case yq17 => (intro w' hSw; obtain ⟨s0, s1, s2, s3, s4, s5⟩ := hSw; (try dsimp only at s0 s1 s2 s3 s4 s5); go_simp; first | done | with_reducible rfl)
            (try simp only [Act.put, List.setIfInBounds_toArray, List.set_cons_zero, List.set_cons_succ])
            refine wpAnyH_take (i := 6) (v := ?vq18) (by simp; rfl) (by kernel_rfl) (by kernel_rfl) (by kernel_rfl) (fun _ _ _ h => h) (Or.inl ⟨by rfl, ?yq18⟩) (by assumption) ?rq18
            case yq18 => (intro w' hSw; obtain ⟨s0, s1, s2, s3, s4, s5⟩ := hSw; (try dsimp only at s0 s1 s2 s3 s4 s5); go_simp; first | done | with_reducible rfl)
            (try simp only [Act.put, List.setIfInBounds_toArray, List.set_cons_zero, List.set_cons_succ])
            refine wpAnyH_ready (rs := [7]) (by kernel_rfl) (by simp) ?_
            refine AllReadyH.cons (by simp; rfl) (fun K hK => ?_) AllReadyH.nil
            go_simp
            (go_at_call 68; refine (within_any _ _ _ _).mono ?_; rintro e w1 ⟨rfl, rfl⟩)
            refine hK.out _ _ ?_ (fun hHeld => ?_)
            · (try dsimp only)
              (first | exact hHeld | (exact ⟨(far3 (by omega)).trans p0, (far3 (by omega)).trans p1, (far3 (by omega)).trans p2, (far3 (by omega)).trans e0, (far3 (by omega)).trans e1, (far3 (by omega)).trans e2⟩) | (exact ⟨p0, p1, p2, e0, e1, e2⟩))
            clear hK K
            (try simp only [Act.put, List.setIfInBounds_toArray, List.set_cons_zero, List.set_cons_succ])
            refine wpAnyH_take (i := 8) (v := ?vq20) (by simp; rfl) (by kernel_rfl) (by kernel_rfl) (by kernel_rfl) (fun _ _ _ h => h) (Or.inl ⟨by rfl, ?yq20⟩) (by assumption) ?rq20
            case yq20 => (intro w' hSw; obtain ⟨s0, s1, s2, s3, s4, s5⟩ := hSw; (try dsimp only at s0 s1 s2 s3 s4 s5); go_simp; first | done | with_reducible rfl)
            (try simp only [Act.put, List.setIfInBounds_toArray, List.set_cons_zero, List.set_cons_succ])
            refine wpAnyH_ready (rs := [9]) (by kernel_rfl) (by simp) ?_
            refine AllReadyH.cons (by simp; rfl) (fun K hK => ?_) AllReadyH.nil
            go_simp
            go_wp2
            refine hK.out _ _ ?_ (fun hHeld => ?_)
            · (try dsimp only)
              (first | exact hHeld | (exact ⟨(far3 (by omega)).trans p0, (far3 (by omega)).trans p1, (far3 (by omega)).trans p2, (far3 (by omega)).trans e0, (far3 (by omega)).trans e1, (far3 (by omega)).trans e2⟩) | (exact ⟨p0, p1, p2, e0, e1, e2⟩))
            clear hK K
            (try simp only [Act.put, List.setIfInBounds_toArray, List.set_cons_zero, List.set_cons_succ])
            refine wpAnyH_take (i := 10) (v := ?vq22) (by simp; rfl) (by kernel_rfl) (by kernel_rfl) (by kernel_rfl) (fun _ _ _ h => h) (Or.inl ⟨by rfl, ?yq22⟩) (by assumption) ?rq22
            case yq22 => (intro w' hSw; obtain ⟨s0, s1, s2, s3, s4, s5⟩ := hSw; (try dsimp only at s0 s1 s2 s3 s4 s5); go_simp; first | done | with_reducible rfl)
            (try simp only [Act.put, List.setIfInBounds_toArray, List.set_cons_zero, List.set_cons_succ])
            refine wpAnyH_done (by kernel_rfl) ?_ _
            refine NoPanic.normal ?_
            go_wp2
            all_goals exact bodyPost_ret (v := .tuple #[.agg #[.int .u8 119, .slice (some ⟨g, 0, none⟩) 3 cap, .string s], .bool (inB n2 0 3)]) (by simp [results, Tryz.results117, go_sem, *]) rfl ⟨_, _, _, _, _, (by rw [HF.out.1]), (fun x hx => by
              obtain rfl := HF.out.2 x hx
              exact ⟨rfl, (by (repeat' (first | exact hnm | (refine NumsAt.far ?_ (fun k hk => by have := hgz k hk; simp; omega) _) | (apply NumsAt.drewN) | (apply NumsAt.drew)))), fun k hk => by have := hgz k hk; omega⟩), (by exact below_)⟩
        · have hf : pcOk 119 ns = false := pc_len3 hn3
          obtain ⟨F1, F2⟩ := pc_fin HW.out HA.out (c := 119) (b := false) (by exact hf)
          have HF := Lib.hid (And.intro F1 F2)
          clear F1 F2
          have hw : 0 < ns.length := by have := cutL_ne 58 r; rw [HW.out] at this; have := List.length_pos_iff.2 this; omega
          obtain ⟨g, cap, rfl, hcap, hcapm, hgb, hgl, hgc⟩ := hR.n.at hw
          obtain ⟨⟨p0, p1, p2⟩, f0, f1, f2⟩ := blk_pc hR.p
          obtain ⟨⟨r0, r1, r2⟩, g0, g1, g2⟩ := blk_pc hR.r
          have hBw := hR.B
          clear hR hgc
          have hq : ((ns.length : Int) != 3) = true := by simp; omega
          go_wp2
          exact bodyPost_ret (v := .tuple #[.agg #[.int .u8 119, .slice (some ⟨g, 0, none⟩) ns.length cap, .string s], .bool false]) (by simp [results, Tryz.results117, go_sem, *]) rfl ⟨_, _, _, _, _, (by rw [HF.out.1]), (fun x hx => by have := HF.out.1; rw [hx] at this; cases this), (by exact below_)⟩
      · have hc9 : ((c.toNat : Int) == 119) = false := u8_ne h3
        by_cases hn3 : ns.length = 2
        · obtain ⟨n0, n1, rfl⟩ : ∃ n0 n1, ns = [n0, n1] := by
            match ns, hn3 with
            | [a, b], _ => exact ⟨a, b, rfl⟩
          obtain ⟨g, cap, rfl, hcap, hcapm, hgb, hgl, hgc⟩ := hR.n.at (by simp)
          have hC : CP (w.heap.size + 1) g cap c s n0 n1 2 wr := by
            obtain ⟨⟨p0, p1, p2⟩, -⟩ := blk_pc hR.p
            exact ⟨p0, p1, p2, hgc 0 n0 rfl, hgc 1 n1 rfl⟩
          have hpl := blk_lt hR.p
          obtain ⟨told, htold⟩ : ∃ t, dirOk n0 n1 = t := ⟨_, rfl⟩
          have HT := Lib.hid htold
          clear htold
          obtain ⟨p0, p1, p2, d0, d1⟩ := hC
          have hC : CP (w.heap.size + 1) g cap c s n0 n1 2 wr := ⟨p0, p1, p2, d0, d1⟩
          go_upto_region 18 with fail
          go_cut [12, 10, 11] from 53 to 65 (fun s12 _ _ wx => s12 = .bool told ∧ Below wr.heap.size wr wx)
          case first =>
            go_region_held3 (fun w' => w'.cell? ⟨w.heap.size + 1, 0, none⟩ = some (.int .u8 (c).toNat) ∧ w'.cell? ⟨w.heap.size + 1, 1, none⟩ = some (.slice (some ⟨g, 0, none⟩) 2 cap) ∧ w'.cell? ⟨w.heap.size + 1, 2, none⟩ = some (.string s) ∧ w'.cell? ⟨g, 0, none⟩ = some (.int .i64 n0) ∧ w'.cell? ⟨g, 1, none⟩ = some (.int .i64 n1)) ((refine hC.of hpl hgl ?_; (repeat' (first | (with_reducible exact Below.refl _ _) | (with_reducible assumption) | (with_reducible refine Below.setCell ?_ (by first | omega | (simp; done) | (simp; omega)) _) | (with_reducible refine Below.alloc ?_ (by first | omega | (simp; done) | (simp; omega)) _) | (with_reducible refine below_drewN ?_ _) | (with_reducible refine Below.drew ?_))))) (first | (go_at_call 127; (with_reducible refine (direction_o n0 n1 told _ HT).mono ?_); rintro e w1 ⟨cc, ss, rfl, hb⟩; obtain ⟨hc, hf⟩ := bf hb (wr.heap.size) side_; have hs := hb.size; (try simp only [World.size_alloc, World.size_setCell, World.size_drew, World.heap_drewN] at hs); have hl : wr.heap.size ≤ w1.heap.size := (by omega); obtain ⟨B, hBe, hBl, hc2, hf2⟩ := bfA hb; (try simp only [World.size_alloc, World.size_setCell, World.size_drew, World.heap_drewN] at hBe); have hB : Below wr.heap.size wr w1 := bstep (by exact below_) hb side_; clear hs hb))
            all_goals (go_wp2; go_meet; exact ⟨rfl, by exact below_⟩)
          obtain ⟨rfl, hB⟩ := hcut
          have hR2 := hR.below hB
          have hnm := NumsAt.of hR2.n (by simp)
          have hBw := hR2.B
          have e0 : wc.cell? ⟨g, 0, none⟩ = some (.int .i64 n0) := (hB.cell (p := ⟨_, _, _⟩) hgl).trans d0
          have e1 : wc.cell? ⟨g, 1, none⟩ = some (.int .i64 n1) := (hB.cell (p := ⟨_, _, _⟩) hgl).trans d1
          clear p0 p1 p2 d0 d1
          obtain ⟨⟨p0, p1, p2⟩, f0, f1, f2⟩ := blk_pc hR2.p
          obtain ⟨⟨r0, r1, r2⟩, g0, g1, g2⟩ := blk_pc hR2.r
          have hgz : ∀ k, (Value.slice (some ⟨g, 0, none⟩) 2 cap).ownBlock = some k → w.heap.size + 3 ≤ k := fun k hk => by
            obtain rfl : g = k := Option.some.inj hk
            exact hgb
          have hzz : w.heap.size < wc.heap.size := blk_lt hR2.r
          have hnm : NumsAt wc (.slice (some ⟨g, 0, none⟩) 2 cap) [n0, n1] := hnm
          have p1 : wc.cell? ⟨w.heap.size + 1, 1, none⟩ = some (.slice (some ⟨g, 0, none⟩) 2 cap) := p1
          clear hR2 hB hC hR hgc hcap hcapm hpl hs hG hsz hne HL hzw hk hkl HS hall hnl hn3 f0 f1 f2
          by_cases h114 : c = 114
          · subst h114
            obtain ⟨F1, F2⟩ := pc_fin HW.out HA.out (c := 114) (b := told) (by show (if (114 : UInt8) = 114 ∨ (114 : UInt8) = 102 then dirOk n0 n1 else if (114 : UInt8) = 97 ∨ (114 : UInt8) = 100 then inB n1 1 100 && inB n0 0 n1 else false) = _; rw [if_pos (.inl rfl), HT.out])
            have HF := Lib.hid (And.intro F1 F2)
            clear F1 F2
            go_wp2
            all_goals exact bodyPost_ret (v := .tuple #[.agg #[.int .u8 114, .slice (some ⟨g, 0, none⟩) 2 cap, .string s], .bool (told)]) (by simp [results, Tryz.results117, go_sem, *]) rfl ⟨_, _, _, _, _, (by rw [HF.out.1]), (fun x hx => by
              obtain rfl := HF.out.2 x hx
              exact ⟨rfl, (by (repeat' (first | exact hnm | (refine NumsAt.far ?_ (fun k hk => by have := hgz k hk; simp; omega) _) | (apply NumsAt.drewN) | (apply NumsAt.drew)))), fun k hk => by have := hgz k hk; omega⟩), (by exact below_)⟩
          by_cases h102 : c = 102
          · subst h102
            obtain ⟨F1, F2⟩ := pc_fin HW.out HA.out (c := 102) (b := told) (by show (if (102 : UInt8) = 114 ∨ (102 : UInt8) = 102 then dirOk n0 n1 else if (102 : UInt8) = 97 ∨ (102 : UInt8) = 100 then inB n1 1 100 && inB n0 0 n1 else false) = _; rw [if_pos (.inr rfl), HT.out])
            have HF := Lib.hid (And.intro F1 F2)
            clear F1 F2
            go_wp2
            all_goals exact bodyPost_ret (v := .tuple #[.agg #[.int .u8 102, .slice (some ⟨g, 0, none⟩) 2 cap, .string s], .bool (told)]) (by simp [results, Tryz.results117, go_sem, *]) rfl ⟨_, _, _, _, _, (by rw [HF.out.1]), (fun x hx => by
              obtain rfl := HF.out.2 x hx
              exact ⟨rfl, (by (repeat' (first | exact hnm | (refine NumsAt.far ?_ (fun k hk => by have := hgz k hk; simp; omega) _) | (apply NumsAt.drewN) | (apply NumsAt.drew)))), fun k hk => by have := hgz k hk; omega⟩), (by exact below_)⟩
          by_cases h97 : c = 97
          · subst h97
            cases hv : inB n1 1 100
            · skip
              obtain ⟨F1, F2⟩ := pc_fin HW.out HA.out (c := 97) (b := false) (by show (if (97 : UInt8) = 114 ∨ (97 : UInt8) = 102 then dirOk n0 n1 else if (97 : UInt8) = 97 ∨ (97 : UInt8) = 100 then inB n1 1 100 && inB n0 0 n1 else false) = _; rw [if_neg (by decide), if_pos (by decide), hv]; rfl)
              have HF := Lib.hid (And.intro F1 F2)
              clear F1 F2
              go_upto_region 27 with fail
              refine wp_region_noPanic ?_
              refine wp_region_held_drew (S := fun w' => w'.cell? ⟨w.heap.size + 1, 0, none⟩ = some (.int .u8 ((97 : UInt8)).toNat) ∧ w'.cell? ⟨w.heap.size + 1, 1, none⟩ = some (.slice (some ⟨g, 0, none⟩) 2 cap) ∧ w'.cell? ⟨w.heap.size + 1, 2, none⟩ = some (.string s) ∧ w'.cell? ⟨g, 0, none⟩ = some (.int .i64 n0) ∧ w'.cell? ⟨g, 1, none⟩ = some (.int .i64 n1) ∧ w'.cell? ⟨g, 1, none⟩ = some (.int .i64 n1)) (by kernel_rfl) ?_ (fun hHeld => ?_)
              · (try dsimp only)
                (first | exact hHeld | (exact ⟨(far3 (by omega)).trans p0, (far3 (by omega)).trans p1, (far3 (by omega)).trans p2, (far3 (by omega)).trans e0, (far3 (by omega)).trans e1, (far3 (by omega)).trans e1⟩) | (exact ⟨p0, p1, p2, e0, e1, e1⟩))
              refine wpAnyH_take (i := 0) (v := ?vq23) (by simp; rfl) (by kernel_rfl) (by kernel_rfl) (by kernel_rfl) (fun _ _ _ h => h) (Or.inl ⟨by rfl, ?yq23⟩) (by assumption) ?rq23
              case yq23 => (intro w' hSw; obtain ⟨s0, s1, s2, s3, s4, s5⟩ := hSw; (try dsimp only at s0 s1 s2 s3 s4 s5); go_simp; first | done | with_reducible rfl)
              (try simp only [Act.put, List.setIfInBounds_toArray, List.set_cons_zero, List.set_cons_succ])
              refine wpAnyH_take (i := 1) (v := ?vq24) (by simp; rfl) (by kernel_rfl) (by kernel_rfl) (by kernel_rfl) (fun _ _ _ h => h) (Or.inl ⟨by rfl, ?yq24⟩) (by assumption) ?rq24
              case yq24 => (intro w' hSw; obtain ⟨s0, s1, s2, s3, s4, s5⟩ := hSw; (try dsimp only at s0 s1 s2 s3 s4 s5); go_simp; first | done | with_reducible rfl)
              (try simp only [Act.put, List.setIfInBounds_toArray, List.set_cons_zero, List.set_cons_succ])
              refine wpAnyH_take (i := 2) (v := ?vq25) (by simp; rfl) (by kernel_rfl) (by kernel_rfl) (by kernel_rfl) (fun _ _ _ h => h) (Or.inl ⟨by rfl, ?yq25⟩) (by assumption) ?rq25
              case yq25 => (intro w' hSw; obtain ⟨s0, s1, s2, s3, s4, s5⟩ := hSw; (try dsimp only at s0 s1 s2 s3 s4 s5); go_simp; first | done | with_reducible rfl)
              (try simp only [Act.put, List.setIfInBounds_toArray, List.set_cons_zero, List.set_cons_succ])
              refine wpAnyH_take (i := 3) (v := ?vq26) (by simp; rfl) (by kernel_rfl) (by kernel_rfl) (by kernel_rfl) (fun _ _ _ h => h) (Or.inl ⟨by rfl, ?yq26⟩) (by assumption) ?rq26
              case yq26 => (intro w' hSw; obtain ⟨s0, s1, s2, s3, s4, s5⟩ := hSw; (try dsimp only at s0 s1 s2 s3 s4 s5); go_simp; first | done | with_reducible rfl)
              (try simp only [Act.put, List.setIfInBounds_toArray, List.set_cons_zero, List.set_cons_succ])
              refine wpAnyH_take (i := 4) (v := ?vq27) (by simp; rfl) (by kernel_rfl) (by kernel_rfl) (by kernel_rfl) (fun _ _ _ h => h) (Or.inl ⟨by rfl, ?yq27⟩) (by assumption) ?rq27
              case yq27 => (intro w' hSw; obtain ⟨s0, s1, s2, s3, s4, s5⟩ := hSw; (try dsimp only at s0 s1 s2 s3 s4 s5); go_simp; first | done | with_reducible rfl)
              (try simp only [Act.put, List.setIfInBounds_toArray, List.set_cons_zero, List.set_cons_succ])
              refine wpAnyH_ready (rs := [5]) (by kernel_rfl) (by simp) ?_
              refine AllReadyH.cons (by simp; rfl) (fun K hK => ?_) AllReadyH.nil
              go_simp
              (first | (go_at_call 68; refine (within_t _ _ _ _ (by assumption)).mono ?_; rintro e w1 ⟨rfl, rfl⟩) | (go_at_call 68; refine (within_f _ _ _ _ (by assumption)).mono ?_; rintro e w1 ⟨rfl, rfl⟩))
              refine hK.out _ _ ?_ (fun hHeld => ?_)
              · (try dsimp only)
                (first | exact hHeld | (exact ⟨(far3 (by omega)).trans p0, (far3 (by omega)).trans p1, (far3 (by omega)).trans p2, (far3 (by omega)).trans e0, (far3 (by omega)).trans e1, (far3 (by omega)).trans e1⟩) | (exact ⟨p0, p1, p2, e0, e1, e1⟩))
              clear hK K
              (try simp only [Act.put, List.setIfInBounds_toArray, List.set_cons_zero, List.set_cons_succ])
              refine wpAnyH_take (i := 6) (v := ?vq29) (by simp; rfl) (by kernel_rfl) (by kernel_rfl) (by kernel_rfl) (fun _ _ _ h => h) (Or.inl ⟨by rfl, ?yq29⟩) (by assumption) ?rq29
              case yq29 => (intro w' hSw; obtain ⟨s0, s1, s2, s3, s4, s5⟩ := hSw; (try dsimp only at s0 s1 s2 s3 s4 s5); go_simp; first | done | with_reducible rfl)
              (try simp only [Act.put, List.setIfInBounds_toArray, List.set_cons_zero, List.set_cons_succ])
              refine wpAnyH_take (i := 7) (v := undef) (by simp; rfl) (by kernel_rfl) (by kernel_rfl) (by kernel_rfl) (fun _ _ _ h => h) (Or.inr ⟨by rfl, rfl⟩) (by assumption) ?_
              (try simp only [Act.put, List.setIfInBounds_toArray, List.set_cons_zero, List.set_cons_succ])
              refine wpAnyH_take (i := 8) (v := undef) (by simp; rfl) (by kernel_rfl) (by kernel_rfl) (by kernel_rfl) (fun _ _ _ h => h) (Or.inr ⟨by rfl, rfl⟩) (by assumption) ?_
              (try simp only [Act.put, List.setIfInBounds_toArray, List.set_cons_zero, List.set_cons_succ])
              refine wpAnyH_take (i := 9) (v := undef) (by simp; rfl) (by kernel_rfl) (by kernel_rfl) (by kernel_rfl) (fun _ _ _ h => h) (Or.inr ⟨by rfl, rfl⟩) (by assumption) ?_
              (try simp only [Act.put, List.setIfInBounds_toArray, List.set_cons_zero, List.set_cons_succ])
              refine wpAnyH_take (i := 10) (v := undef) (by simp; rfl) (by kernel_rfl) (by kernel_rfl) (by kernel_rfl) (fun _ _ _ h => h) (Or.inr ⟨by rfl, rfl⟩) (by assumption) ?_
              (try simp only [Act.put, List.setIfInBounds_toArray, List.set_cons_zero, List.set_cons_succ])
              refine wpAnyH_take (i := 11) (v := undef) (by simp; rfl) (by kernel_rfl) (by kernel_rfl) (by kernel_rfl) (fun _ _ _ h => h) (Or.inr ⟨by rfl, rfl⟩) (by assumption) ?_
              (try simp only [Act.put, List.setIfInBounds_toArray, List.set_cons_zero, List.set_cons_succ])
              refine wpAnyH_take (i := 12) (v := undef) (by simp; rfl) (by kernel_rfl) (by kernel_rfl) (by kernel_rfl) (fun _ _ _ h => h) (Or.inr ⟨by rfl, rfl⟩) (by assumption) ?_
              (try simp only [Act.put, List.setIfInBounds_toArray, List.set_cons_zero, List.set_cons_succ])
              refine wpAnyH_take (i := 13) (v := undef) (by simp; rfl) (by kernel_rfl) (by kernel_rfl) (by kernel_rfl) (fun _ _ _ h => h) (Or.inr ⟨by rfl, rfl⟩) (by assumption) ?_
              (try simp only [Act.put, List.setIfInBounds_toArray, List.set_cons_zero, List.set_cons_succ])
              refine wpAnyH_take (i := 14) (v := undef) (by simp; rfl) (by kernel_rfl) (by kernel_rfl) (by kernel_rfl) (fun _ _ _ h => h) (Or.inr ⟨by rfl, rfl⟩) (by assumption) ?_
              (try simp only [Act.put, List.setIfInBounds_toArray, List.set_cons_zero, List.set_cons_succ])
              refine wpAnyH_take (i := 15) (v := undef) (by simp; rfl) (by kernel_rfl) (by kernel_rfl) (by kernel_rfl) (fun _ _ _ h => h) (Or.inr ⟨by rfl, rfl⟩) (by assumption) ?_
              (try simp only [Act.put, List.setIfInBounds_toArray, List.set_cons_zero, List.set_cons_succ])
              refine wpAnyH_take (i := 16) (v := ?vq39) (by simp; rfl) (by kernel_rfl) (by kernel_rfl) (by kernel_rfl) (fun _ _ _ h => h) (Or.inl ⟨by rfl, ?yq39⟩) (by assumption) ?rq39
              case yq39 => (intro w' hSw; obtain ⟨s0, s1, s2, s3, s4, s5⟩ := hSw; (try dsimp only at s0 s1 s2 s3 s4 s5); go_simp; first | done | with_reducible rfl)
              (try simp only [Act.put, List.setIfInBounds_toArray, List.set_cons_zero, List.set_cons_succ])
              refine wpAnyH_ready (rs := [17]) (by kernel_rfl) (by simp) ?_
              refine AllReadyH.cons (by simp; rfl) (fun K hK => ?_) AllReadyH.nil
              go_simp
              go_wp2
              refine hK.out _ _ ?_ (fun hHeld => ?_)
              · (try dsimp only)
                (first | exact hHeld | (exact ⟨(far3 (by omega)).trans p0, (far3 (by omega)).trans p1, (far3 (by omega)).trans p2, (far3 (by omega)).trans e0, (far3 (by omega)).trans e1, (far3 (by omega)).trans e1⟩) | (exact ⟨p0, p1, p2, e0, e1, e1⟩))
              clear hK K
              (try simp only [Act.put, List.setIfInBounds_toArray, List.set_cons_zero, List.set_cons_succ])
              refine wpAnyH_take (i := 18) (v := ?vq41) (by simp; rfl) (by kernel_rfl) (by kernel_rfl) (by kernel_rfl) (fun _ _ _ h => h) (Or.inl ⟨by rfl, ?yq41⟩) (by assumption) ?rq41
              case yq41 => (intro w' hSw; obtain ⟨s0, s1, s2, s3, s4, s5⟩ := hSw; (try dsimp only at s0 s1 s2 s3 s4 s5); go_simp; first | done | with_reducible rfl)
              (try simp only [Act.put, List.setIfInBounds_toArray, List.set_cons_zero, List.set_cons_succ])
              refine wpAnyH_done (by kernel_rfl) ?_ _
              refine NoPanic.normal ?_
              go_wp2
              all_goals exact bodyPost_ret (v := .tuple #[.agg #[.int .u8 97, .slice (some ⟨g, 0, none⟩) 2 cap, .string s], .bool (false)]) (by simp [results, Tryz.results117, go_sem, *]) rfl ⟨_, _, _, _, _, (by rw [HF.out.1]), (fun x hx => by
                obtain rfl := HF.out.2 x hx
                exact ⟨rfl, (by (repeat' (first | exact hnm | (refine NumsAt.far ?_ (fun k hk => by have := hgz k hk; simp; omega) _) | (apply NumsAt.drewN) | (apply NumsAt.drew)))), fun k hk => by have := hgz k hk; omega⟩), (by exact below_)⟩
            · skip
              obtain ⟨F1, F2⟩ := pc_fin HW.out HA.out (c := 97) (b := inB n0 0 n1) (by show (if (97 : UInt8) = 114 ∨ (97 : UInt8) = 102 then dirOk n0 n1 else if (97 : UInt8) = 97 ∨ (97 : UInt8) = 100 then inB n1 1 100 && inB n0 0 n1 else false) = _; rw [if_neg (by decide), if_pos (by decide), hv, Bool.true_and])
              have HF := Lib.hid (And.intro F1 F2)
              clear F1 F2
              go_upto_region 27 with fail
              refine wp_region_noPanic ?_
              refine wp_region_held_drew (S := fun w' => w'.cell? ⟨w.heap.size + 1, 0, none⟩ = some (.int .u8 ((97 : UInt8)).toNat) ∧ w'.cell? ⟨w.heap.size + 1, 1, none⟩ = some (.slice (some ⟨g, 0, none⟩) 2 cap) ∧ w'.cell? ⟨w.heap.size + 1, 2, none⟩ = some (.string s) ∧ w'.cell? ⟨g, 0, none⟩ = some (.int .i64 n0) ∧ w'.cell? ⟨g, 1, none⟩ = some (.int .i64 n1) ∧ w'.cell? ⟨g, 1, none⟩ = some (.int .i64 n1)) (by kernel_rfl) ?_ (fun hHeld => ?_)
              · (try dsimp only)
                (first | exact hHeld | (exact ⟨(far3 (by omega)).trans p0, (far3 (by omega)).trans p1, (far3 (by omega)).trans p2, (far3 (by omega)).trans e0, (far3 (by omega)).trans e1, (far3 (by omega)).trans e1⟩) | (exact ⟨p0, p1, p2, e0, e1, e1⟩))
              refine wpAnyH_take (i := 0) (v := ?vq42) (by simp; rfl) (by kernel_rfl) (by kernel_rfl) (by kernel_rfl) (fun _ _ _ h => h) (Or.inl ⟨by rfl, ?yq42⟩) (by assumption) ?rq42
              case yq42 => (intro w' hSw; obtain ⟨s0, s1, s2, s3, s4, s5⟩ := hSw; (try dsimp only at s0 s1 s2 s3 s4 s5); go_simp; first | done | with_reducible rfl)
              (try simp only [Act.put, List.setIfInBounds_toArray, List.set_cons_zero, List.set_cons_succ])
              refine wpAnyH_take (i := 1) (v := ?vq43) (by simp; rfl) (by kernel_rfl) (by kernel_rfl) (by kernel_rfl) (fun _ _ _ h => h) (Or.inl ⟨by rfl, ?yq43⟩) (by assumption) ?rq43
              case yq43 => (intro w' hSw; obtain ⟨s0, s1, s2, s3, s4, s5⟩ := hSw; (try dsimp only at s0 s1 s2 s3 s4 s5); go_simp; first | done | with_reducible rfl)
              (try simp only [Act.put, List.setIfInBounds_toArray, List.set_cons_zero, List.set_cons_succ])
              refine wpAnyH_take (i := 2) (v := ?vq44) (by simp; rfl) (by kernel_rfl) (by kernel_rfl) (by kernel_rfl) (fun _ _ _ h => h) (Or.inl ⟨by rfl, ?yq44⟩) (by assumption) ?rq44
              case yq44 => (intro w' hSw; obtain ⟨s0, s1, s2, s3, s4, s5⟩ := hSw; (try dsimp only at s0 s1 s2 s3 s4 s5); go_simp; first | done | with_reducible rfl)
              (try simp only [Act.put, List.setIfInBounds_toArray, List.set_cons_zero, List.set_cons_succ])
              refine wpAnyH_take (i := 3) (v := ?vq45) (by simp; rfl) (by kernel_rfl) (by kernel_rfl) (by kernel_rfl) (fun _ _ _ h => h) (Or.inl ⟨by rfl, ?yq45⟩) (by assumption) ?rq45
              case yq45 => (intro w' hSw; obtain ⟨s0, s1, s2, s3, s4, s5⟩ := hSw; (try dsimp only at s0 s1 s2 s3 s4 s5); go_simp; first | done | with_reducible rfl)
              (try simp only [Act.put, List.setIfInBounds_toArray, List.set_cons_zero, List.set_cons_succ])
              refine wpAnyH_take (i := 4) (v := ?vq46) (by simp; rfl) (by kernel_rfl) (by kernel_rfl) (by kernel_rfl) (fun _ _ _ h => h) (Or.inl ⟨by rfl, ?yq46⟩) (by assumption) ?rq46
              case yq46 => (intro w' hSw; obtain ⟨s0, s1, s2, s3, s4, s5⟩ := hSw; (try dsimp only at s0 s1 s2 s3 s4 s5); go_simp; first | done | with_reducible rfl)
              (try simp only [Act.put, List.setIfInBounds_toArray, List.set_cons_zero, List.set_cons_succ])
              refine wpAnyH_ready (rs := [5]) (by kernel_rfl) (by simp) ?_
              refine AllReadyH.cons (by simp; rfl) (fun K hK => ?_) AllReadyH.nil
              go_simp
              (first | (go_at_call 68; refine (within_t _ _ _ _ (by assumption)).mono ?_; rintro e w1 ⟨rfl, rfl⟩) | (go_at_call 68; refine (within_any _ _ _ _).mono ?_; rintro e w1 ⟨rfl, rfl⟩))
              refine hK.out _ _ ?_ (fun hHeld => ?_)
              · (try dsimp only)
                (first | exact hHeld | (exact ⟨(far3 (by omega)).trans p0, (far3 (by omega)).trans p1, (far3 (by omega)).trans p2, (far3 (by omega)).trans e0, (far3 (by omega)).trans e1, (far3 (by omega)).trans e1⟩) | (exact ⟨p0, p1, p2, e0, e1, e1⟩))
              clear hK K
              (try simp only [Act.put, List.setIfInBounds_toArray, List.set_cons_zero, List.set_cons_succ])
              refine wpAnyH_take (i := 6) (v := ?vq48) (by simp; rfl) (by kernel_rfl) (by kernel_rfl) (by kernel_rfl) (fun _ _ _ h => h) (Or.inl ⟨by rfl, ?yq48⟩) (by assumption) ?rq48
              case yq48 => (intro w' hSw; obtain ⟨s0, s1, s2, s3, s4, s5⟩ := hSw; (try dsimp only at s0 s1 s2 s3 s4 s5); go_simp; first | done | with_reducible rfl)
              (try simp only [Act.put, List.setIfInBounds_toArray, List.set_cons_zero, List.set_cons_succ])
              refine wpAnyH_take (i := 7) (v := ?vq49) (by simp; rfl) (by kernel_rfl) (by kernel_rfl) (by kernel_rfl) (fun _ _ _ h => h) (Or.inl ⟨by rfl, ?yq49⟩) (by assumption) ?rq49
              case yq49 => (intro w' hSw; obtain ⟨s0, s1, s2, s3, s4, s5⟩ := hSw; (try dsimp only at s0 s1 s2 s3 s4 s5); go_simp; first | done | with_reducible rfl)
              (try simp only [Act.put, List.setIfInBounds_toArray, List.set_cons_zero, List.set_cons_succ])
              refine wpAnyH_take (i := 8) (v := ?vq50) (by simp; rfl) (by kernel_rfl) (by kernel_rfl) (by kernel_rfl) (fun _ _ _ h => h) (Or.inl ⟨by rfl, ?yq50⟩) (by assumption) ?rq50
              case yq50 => (intro w' hSw; obtain ⟨s0, s1, s2, s3, s4, s5⟩ := hSw; (try dsimp only at s0 s1 s2 s3 s4 s5); go_simp; first | done | with_reducible rfl)
              (try simp only [Act.put, List.setIfInBounds_toArray, List.set_cons_zero, List.set_cons_succ])
              refine wpAnyH_take (i := 9) (v := ?vq51) (by simp; rfl) (by kernel_rfl) (by kernel_rfl) (by kernel_rfl) (fun _ _ _ h => h) (Or.inl ⟨by rfl, ?yq51⟩) (by assumption) ?rq51
              case yq51 => (intro w' hSw; obtain ⟨s0, s1, s2, s3, s4, s5⟩ := hSw; (try dsimp only at s0 s1 s2 s3 s4 s5); go_simp; first | done | with_reducible rfl)
              (try simp only [Act.put, List.setIfInBounds_toArray, List.set_cons_zero, List.set_cons_succ])
              refine wpAnyH_take (i := 10) (v := ?vq52) (by simp; rfl) (by kernel_rfl) (by kernel_rfl) (by kernel_rfl) (fun _ _ _ h => h) (Or.inl ⟨by rfl, ?yq52⟩) (by assumption) ?rq52
              case yq52 => (intro w' hSw; obtain ⟨s0, s1, s2, s3, s4, s5⟩ := hSw; (try dsimp only at s0 s1 s2 s3 s4 s5); go_simp; first | done | with_reducible rfl)
              (try simp only [Act.put, List.setIfInBounds_toArray, List.set_cons_zero, List.set_cons_succ])
              refine wpAnyH_take (i := 11) (v := ?vq53) (by simp; rfl) (by kernel_rfl) (by kernel_rfl) (by kernel_rfl) (fun _ _ _ h => h) (Or.inl ⟨by rfl, ?yq53⟩) (by assumption) ?rq53
              case yq53 => (intro w' hSw; obtain ⟨s0, s1, s2, s3, s4, s5⟩ := hSw; (try dsimp only at s0 s1 s2 s3 s4 s5); go_simp; first | done | with_reducible rfl)
              (try simp only [Act.put, List.setIfInBounds_toArray, List.set_cons_zero, List.set_cons_succ])
              refine wpAnyH_take (i := 12) (v := ?vq54) (by simp; rfl) (by kernel_rfl) (by kernel_rfl) (by kernel_rfl) (fun _ _ _ h => h) (Or.inl ⟨by rfl, ?yq54⟩) (by assumption) ?rq54
              case yq54 => (intro w' hSw; obtain ⟨s0, s1, s2, s3, s4, s5⟩ := hSw; (try dsimp only at s0 s1 s2 s3 s4 s5); go_simp; first | done | with_reducible rfl)
              (try simp only [Act.put, List.setIfInBounds_toArray, List.set_cons_zero, List.set_cons_succ])
              refine wpAnyH_take (i := 13) (v := ?vq55) (by simp; rfl) (by kernel_rfl) (by kernel_rfl) (by kernel_rfl) (fun _ _ _ h => h) (Or.inl ⟨by rfl, ?yq55⟩) (by assumption) ?rq55
              case yq55 => (intro w' hSw; obtain ⟨s0, s1, s2, s3, s4, s5⟩ := hSw; (try dsimp only at s0 s1 s2 s3 s4 s5); go_simp; first | done | with_reducible rfl)
              (try simp only [Act.put, List.setIfInBounds_toArray, List.set_cons_zero, List.set_cons_succ])
              refine wpAnyH_take (i := 14) (v := ?vq56) (by simp; rfl) (by kernel_rfl) (by kernel_rfl) (by kernel_rfl) (fun _ _ _ h => h) (Or.inl ⟨by rfl, ?yq56⟩) (by assumption) ?rq56
              case yq56 => (intro w' hSw; obtain ⟨s0, s1, s2, s3, s4, s5⟩ := hSw; (try dsimp only at s0 s1 s2 s3 s4 s5); go_simp; first | done | with_reducible rfl)
              (try simp only [Act.put, List.setIfInBounds_toArray, List.set_cons_zero, List.set_cons_succ])
              refine wpAnyH_ready (rs := [15]) (by kernel_rfl) (by simp) ?_
              refine AllReadyH.cons (by simp; rfl) (fun K hK => ?_) AllReadyH.nil
              go_simp
              (first | (go_at_call 68; refine (within_t _ _ _ _ (by assumption)).mono ?_; rintro e w1 ⟨rfl, rfl⟩) | (go_at_call 68; refine (within_any _ _ _ _).mono ?_; rintro e w1 ⟨rfl, rfl⟩))
              refine hK.out _ _ ?_ (fun hHeld => ?_)
              · (try dsimp only)
                (first | exact hHeld | (exact ⟨(far3 (by omega)).trans p0, (far3 (by omega)).trans p1, (far3 (by omega)).trans p2, (far3 (by omega)).trans e0, (far3 (by omega)).trans e1, (far3 (by omega)).trans e1⟩) | (exact ⟨p0, p1, p2, e0, e1, e1⟩))
              clear hK K
              (try simp only [Act.put, List.setIfInBounds_toArray, List.set_cons_zero, List.set_cons_succ])
              refine wpAnyH_take (i := 16) (v := ?vq58) (by simp; rfl) (by kernel_rfl) (by kernel_rfl) (by kernel_rfl) (fun _ _ _ h => h) (Or.inl ⟨by rfl, ?yq58⟩) (by assumption) ?rq58
              case yq58 => (intro w' hSw; obtain ⟨s0, s1, s2, s3, s4, s5⟩ := hSw; (try dsimp only at s0 s1 s2 s3 s4 s5); go_simp; first | done | with_reducible rfl)
              (try simp only [Act.put, List.setIfInBounds_toArray, List.set_cons_zero, List.set_cons_succ])
              refine wpAnyH_ready (rs := [17]) (by kernel_rfl) (by simp) ?_
              refine AllReadyH.cons (by simp; rfl) (fun K hK => ?_) AllReadyH.nil
              go_simp
              go_wp2
              refine hK.out _ _ ?_ (fun hHeld => ?_)
              · (try dsimp only)
                (first | exact hHeld | (exact ⟨(far3 (by omega)).trans p0, (far3 (by omega)).trans p1, (far3 (by omega)).trans p2, (far3 (by omega)).trans e0, (far3 (by omega)).trans e1, (far3 (by omega)).trans e1⟩) | (exact ⟨p0, p1, p2, e0, e1, e1⟩))
              clear hK K
              (try simp only [Act.put, List.setIfInBounds_toArray, List.set_cons_zero, List.set_cons_succ])
              refine wpAnyH_take (i := 18) (v := ?vq60) (by simp; rfl) (by kernel_rfl) (by kernel_rfl) (by kernel_rfl) (fun _ _ _ h => h) (Or.inl ⟨by rfl, ?yq60⟩) (by assumption) ?rq60
              case yq60 => (intro w' hSw; obtain ⟨s0, s1, s2, s3, s4, s5⟩ := hSw; (try dsimp only at s0 s1 s2 s3 s4 s5); go_simp; first | done | with_reducible rfl)
              (try simp only [Act.put, List.setIfInBounds_toArray, List.set_cons_zero, List.set_cons_succ])
              refine wpAnyH_done (by kernel_rfl) ?_ _
              refine NoPanic.normal ?_
              go_wp2
              all_goals exact bodyPost_ret (v := .tuple #[.agg #[.int .u8 97, .slice (some ⟨g, 0, none⟩) 2 cap, .string s], .bool (inB n0 0 n1)]) (by simp [results, Tryz.results117, go_sem, *]) rfl ⟨_, _, _, _, _, (by rw [HF.out.1]), (fun x hx => by
                obtain rfl := HF.out.2 x hx
                exact ⟨rfl, (by (repeat' (first | exact hnm | (refine NumsAt.far ?_ (fun k hk => by have := hgz k hk; simp; omega) _) | (apply NumsAt.drewN) | (apply NumsAt.drew)))), fun k hk => by have := hgz k hk; omega⟩), (by exact below_)⟩
          by_cases h100 : c = 100
          · subst h100
            cases hv : inB n1 1 100
            · skip
              obtain ⟨F1, F2⟩ := pc_fin HW.out HA.out (c := 100) (b := false) (by show (if (100 : UInt8) = 114 ∨ (100 : UInt8) = 102 then dirOk n0 n1 else if (100 : UInt8) = 97 ∨ (100 : UInt8) = 100 then inB n1 1 100 && inB n0 0 n1 else false) = _; rw [if_neg (by decide), if_pos (by decide), hv]; rfl)
              have HF := Lib.hid (And.intro F1 F2)
              clear F1 F2
              go_upto_region 27 with fail
              refine wp_region_noPanic ?_
              refine wp_region_held_drew (S := fun w' => w'.cell? ⟨w.heap.size + 1, 0, none⟩ = some (.int .u8 ((100 : UInt8)).toNat) ∧ w'.cell? ⟨w.heap.size + 1, 1, none⟩ = some (.slice (some ⟨g, 0, none⟩) 2 cap) ∧ w'.cell? ⟨w.heap.size + 1, 2, none⟩ = some (.string s) ∧ w'.cell? ⟨g, 0, none⟩ = some (.int .i64 n0) ∧ w'.cell? ⟨g, 1, none⟩ = some (.int .i64 n1) ∧ w'.cell? ⟨g, 1, none⟩ = some (.int .i64 n1)) (by kernel_rfl) ?_ (fun hHeld => ?_)
              · (try dsimp only)
                (first | exact hHeld | (exact ⟨(far3 (by omega)).trans p0, (far3 (by omega)).trans p1, (far3 (by omega)).trans p2, (far3 (by omega)).trans e0, (far3 (by omega)).trans e1, (far3 (by omega)).trans e1⟩) | (exact ⟨p0, p1, p2, e0, e1, e1⟩))
              refine wpAnyH_take (i := 0) (v := ?vq61) (by simp; rfl) (by kernel_rfl) (by kernel_rfl) (by kernel_rfl) (fun _ _ _ h => h) (Or.inl ⟨by rfl, ?yq61⟩) (by assumption) ?rq61
              case yq61 => (intro w' hSw; obtain ⟨s0, s1, s2, s3, s4, s5⟩ := hSw; (try dsimp only at s0 s1 s2 s3 s4 s5); go_simp; first | done | with_reducible rfl)
              (try simp only [Act.put, List.setIfInBounds_toArray, List.set_cons_zero, List.set_cons_succ])
              refine wpAnyH_take (i := 1) (v := ?vq62) (by simp; rfl) (by kernel_rfl) (by kernel_rfl) (by kernel_rfl) (fun _ _ _ h => h) (Or.inl ⟨by rfl, ?yq62⟩) (by assumption) ?rq62
              case yq62 => (intro w' hSw; obtain ⟨s0, s1, s2, s3, s4, s5⟩ := hSw; (try dsimp only at s0 s1 s2 s3 s4 s5); go_simp; first | done | with_reducible rfl)
              (try simp only [Act.put, List.setIfInBounds_toArray, List.set_cons_zero, List.set_cons_succ])
              refine wpAnyH_take (i := 2) (v := ?vq63) (by simp; rfl) (by kernel_rfl) (by kernel_rfl) (by kernel_rfl) (fun _ _ _ h => h) (Or.inl ⟨by rfl, ?yq63⟩) (by assumption) ?rq63
              case yq63 => (intro w' hSw; obtain ⟨s0, s1, s2, s3, s4, s5⟩ := hSw; (try dsimp only at s0 s1 s2 s3 s4 s5); go_simp; first | done | with_reducible rfl)
              (try simp only [Act.put, List.setIfInBounds_toArray, List.set_cons_zero, List.set_cons_succ])
              refine wpAnyH_take (i := 3) (v := ?vq64) (by simp; rfl) (by kernel_rfl) (by kernel_rfl) (by kernel_rfl) (fun _ _ _ h => h) (Or.inl ⟨by rfl, ?yq64⟩) (by assumption) ?rq64
              case yq64 => (intro w' hSw; obtain ⟨s0, s1, s2, s3, s4, s5⟩ := hSw; (try dsimp only at s0 s1 s2 s3 s4 s5); go_simp; first | done | with_reducible rfl)
              (try simp only [Act.put, List.setIfInBounds_toArray, List.set_cons_zero, List.set_cons_succ])
              refine wpAnyH_take (i := 4) (v := ?vq65) (by simp; rfl) (by kernel_rfl) (by kernel_rfl) (by kernel_rfl) (fun _ _ _ h => h) (Or.inl ⟨by rfl, ?yq65⟩) (by assumption) ?rq65
              case yq65 => (intro w' hSw; obtain ⟨s0, s1, s2, s3, s4, s5⟩ := hSw; (try dsimp only at s0 s1 s2 s3 s4 s5); go_simp; first | done | with_reducible rfl)
              (try simp only [Act.put, List.setIfInBounds_toArray, List.set_cons_zero, List.set_cons_succ])
              refine wpAnyH_ready (rs := [5]) (by kernel_rfl) (by simp) ?_
              refine AllReadyH.cons (by simp; rfl) (fun K hK => ?_) AllReadyH.nil
              go_simp
              (first | (go_at_call 68; refine (within_t _ _ _ _ (by assumption)).mono ?_; rintro e w1 ⟨rfl, rfl⟩) | (go_at_call 68; refine (within_f _ _ _ _ (by assumption)).mono ?_; rintro e w1 ⟨rfl, rfl⟩))
              refine hK.out _ _ ?_ (fun hHeld => ?_)
              · (try dsimp only)
                (first | exact hHeld | (exact ⟨(far3 (by omega)).trans p0, (far3 (by omega)).trans p1, (far3 (by omega)).trans p2, (far3 (by omega)).trans e0, (far3 (by omega)).trans e1, (far3 (by omega)).trans e1⟩) | (exact ⟨p0, p1, p2, e0, e1, e1⟩))
              clear hK K
              (try simp only [Act.put, List.setIfInBounds_toArray, List.set_cons_zero, List.set_cons_succ])
              refine wpAnyH_take (i := 6) (v := ?vq67) (by simp; rfl) (by kernel_rfl) (by kernel_rfl) (by kernel_rfl) (fun _ _ _ h => h) (Or.inl ⟨by rfl, ?yq67⟩) (by assumption) ?rq67
              case yq67 => (intro w' hSw; obtain ⟨s0, s1, s2, s3, s4, s5⟩ := hSw; (try dsimp only at s0 s1 s2 s3 s4 s5); go_simp; first | done | with_reducible rfl)
              (try simp only [Act.put, List.setIfInBounds_toArray, List.set_cons_zero, List.set_cons_succ])
              refine wpAnyH_take (i := 7) (v := undef) (by simp; rfl) (by kernel_rfl) (by kernel_rfl) (by kernel_rfl) (fun _ _ _ h => h) (Or.inr ⟨by rfl, rfl⟩) (by assumption) ?_
              (try simp only [Act.put, List.setIfInBounds_toArray, List.set_cons_zero, List.set_cons_succ])
              refine wpAnyH_take (i := 8) (v := undef) (by simp; rfl) (by kernel_rfl) (by kernel_rfl) (by kernel_rfl) (fun _ _ _ h => h) (Or.inr ⟨by rfl, rfl⟩) (by assumption) ?_
              (try simp only [Act.put, List.setIfInBounds_toArray, List.set_cons_zero, List.set_cons_succ])
              refine wpAnyH_take (i := 9) (v := undef) (by simp; rfl) (by kernel_rfl) (by kernel_rfl) (by kernel_rfl) (fun _ _ _ h => h) (Or.inr ⟨by rfl, rfl⟩) (by assumption) ?_
              (try simp only [Act.put, List.setIfInBounds_toArray, List.set_cons_zero, List.set_cons_succ])
              refine wpAnyH_take (i := 10) (v := undef) (by simp; rfl) (by kernel_rfl) (by kernel_rfl) (by kernel_rfl) (fun _ _ _ h => h) (Or.inr ⟨by rfl, rfl⟩) (by assumption) ?_
              (try simp only [Act.put, List.setIfInBounds_toArray, List.set_cons_zero, List.set_cons_succ])
              refine wpAnyH_take (i := 11) (v := undef) (by simp; rfl) (by kernel_rfl) (by kernel_rfl) (by kernel_rfl) (fun _ _ _ h => h) (Or.inr ⟨by rfl, rfl⟩) (by assumption) ?_
              (try simp only [Act.put, List.setIfInBounds_toArray, List.set_cons_zero, List.set_cons_succ])
              refine wpAnyH_take (i := 12) (v := undef) (by simp; rfl) (by kernel_rfl) (by kernel_rfl) (by kernel_rfl) (fun _ _ _ h => h) (Or.inr ⟨by rfl, rfl⟩) (by assumption) ?_
              (try simp only [Act.put, List.setIfInBounds_toArray, List.set_cons_zero, List.set_cons_succ])
              refine wpAnyH_take (i := 13) (v := undef) (by simp; rfl) (by kernel_rfl) (by kernel_rfl) (by kernel_rfl) (fun _ _ _ h => h) (Or.inr ⟨by rfl, rfl⟩) (by assumption) ?_
              (try simp only [Act.put, List.setIfInBounds_toArray, List.set_cons_zero, List.set_cons_succ])
              refine wpAnyH_take (i := 14) (v := undef) (by simp; rfl) (by kernel_rfl) (by kernel_rfl) (by kernel_rfl) (fun _ _ _ h => h) (Or.inr ⟨by rfl, rfl⟩) (by assumption) ?_
              (try simp only [Act.put, List.setIfInBounds_toArray, List.set_cons_zero, List.set_cons_succ])
              refine wpAnyH_take (i := 15) (v := undef) (by simp; rfl) (by kernel_rfl) (by kernel_rfl) (by kernel_rfl) (fun _ _ _ h => h) (Or.inr ⟨by rfl, rfl⟩) (by assumption) ?_
              (try simp only [Act.put, List.setIfInBounds_toArray, List.set_cons_zero, List.set_cons_succ])
              refine wpAnyH_take (i := 16) (v := ?vq77) (by simp; rfl) (by kernel_rfl) (by kernel_rfl) (by kernel_rfl) (fun _ _ _ h => h) (Or.inl ⟨by rfl, ?yq77⟩) (by assumption) ?rq77
              case yq77 => (intro w' hSw; obtain ⟨s0, s1, s2, s3, s4, s5⟩ := hSw; (try dsimp only at s0 s1 s2 s3 s4 s5); go_simp; first | done | with_reducible rfl)
              (try simp only [Act.put, List.setIfInBounds_toArray, List.set_cons_zero, List.set_cons_succ])
              refine wpAnyH_ready (rs := [17]) (by kernel_rfl) (by simp) ?_
              refine AllReadyH.cons (by simp; rfl) (fun K hK => ?_) AllReadyH.nil
              go_simp
              go_wp2
              refine hK.out _ _ ?_ (fun hHeld => ?_)
              · (try dsimp only)
                (first | exact hHeld | (exact ⟨(far3 (by omega)).trans p0, (far3 (by omega)).trans p1, (far3 (by omega)).trans p2, (far3 (by omega)).trans e0, (far3 (by omega)).trans e1, (far3 (by omega)).trans e1⟩) | (exact ⟨p0, p1, p2, e0, e1, e1⟩))
              clear hK K
              (try simp only [Act.put, List.setIfInBounds_toArray, List.set_cons_zero, List.set_cons_succ])
              refine wpAnyH_take (i := 18) (v := ?vq79) (by simp; rfl) (by kernel_rfl) (by kernel_rfl) (by kernel_rfl) (fun _ _ _ h => h) (Or.inl ⟨by rfl, ?yq79⟩) (by assumption) ?rq79
              case yq79 => (intro w' hSw; obtain ⟨s0, s1, s2, s3, s4, s5⟩ := hSw; (try dsimp only at s0 s1 s2 s3 s4 s5); go_simp; first | done | with_reducible rfl)
              (try simp only [Act.put, List.setIfInBounds_toArray, List.set_cons_zero, List.set_cons_succ])
              refine wpAnyH_done (by kernel_rfl) ?_ _
              refine NoPanic.normal ?_
              go_wp2
              all_goals exact bodyPost_ret (v := .tuple #[.agg #[.int .u8 100, .slice (some ⟨g, 0, none⟩) 2 cap, .string s], .bool (false)]) (by simp [results, Tryz.results117, go_sem, *]) rfl ⟨_, _, _, _, _, (by rw [HF.out.1]), (fun x hx => by
                obtain rfl := HF.out.2 x hx
                exact ⟨rfl, (by (repeat' (first | exact hnm | (refine NumsAt.far ?_ (fun k hk => by have := hgz k hk; simp; omega) _) | (apply NumsAt.drewN) | (apply NumsAt.drew)))), fun k hk => by have := hgz k hk; omega⟩), (by exact below_)⟩
            · skip
              obtain ⟨F1, F2⟩ := pc_fin HW.out HA.out (c := 100) (b := inB n0 0 n1) (by show (if (100 : UInt8) = 114 ∨ (100 : UInt8) = 102 then dirOk n0 n1 else if (100 : UInt8) = 97 ∨ (100 : UInt8) = 100 then inB n1 1 100 && inB n0 0 n1 else false) = _; rw [if_neg (by decide), if_pos (by decide), hv, Bool.true_and])
              have HF := Lib.hid (And.intro F1 F2)
              clear F1 F2
              go_upto_region 27 with fail
              refine wp_region_noPanic ?_
              refine wp_region_held_drew (S := fun w' => w'.cell? ⟨w.heap.size + 1, 0, none⟩ = some (.int .u8 ((100 : UInt8)).toNat) ∧ w'.cell? ⟨w.heap.size + 1, 1, none⟩ = some (.slice (some ⟨g, 0, none⟩) 2 cap) ∧ w'.cell? ⟨w.heap.size + 1, 2, none⟩ = some (.string s) ∧ w'.cell? ⟨g, 0, none⟩ = some (.int .i64 n0) ∧ w'.cell? ⟨g, 1, none⟩ = some (.int .i64 n1) ∧ w'.cell? ⟨g, 1, none⟩ = some (.int .i64 n1)) (by kernel_rfl) ?_ (fun hHeld => ?_)
              · (try dsimp only)
                (first | exact hHeld | (exact ⟨(far3 (by omega)).trans p0, (far3 (by omega)).trans p1, (far3 (by omega)).trans p2, (far3 (by omega)).trans e0, (far3 (by omega)).trans e1, (far3 (by omega)).trans e1⟩) | (exact ⟨p0, p1, p2, e0, e1, e1⟩))
              refine wpAnyH_take (i := 0) (v := ?vq80) (by simp; rfl) (by kernel_rfl) (by kernel_rfl) (by kernel_rfl) (fun _ _ _ h => h) (Or.inl ⟨by rfl, ?yq80⟩) (by assumption) ?rq80
              case yq80 => (intro w' hSw; obtain ⟨s0, s1, s2, s3, s4, s5⟩ := hSw; (try dsimp only at s0 s1 s2 s3 s4 s5); go_simp; first | done | with_reducible rfl)
              (try simp only [Act.put, List.setIfInBounds_toArray, List.set_cons_zero, List.set_cons_succ])
              refine wpAnyH_take (i := 1) (v := ?vq81) (by simp; rfl) (by kernel_rfl) (by kernel_rfl) (by kernel_rfl) (fun _ _ _ h => h) (Or.inl ⟨by rfl, ?yq81⟩) (by assumption) ?rq81
              case yq81 => (intro w' hSw; obtain ⟨s0, s1, s2, s3, s4, s5⟩ := hSw; (try dsimp only at s0 s1 s2 s3 s4 s5); go_simp; first | done | with_reducible rfl)
              (try simp only [Act.put, List.setIfInBounds_toArray, List.set_cons_zero, List.set_cons_succ])
              refine wpAnyH_take (i := 2) (v := ?vq82) (by simp; rfl) (by kernel_rfl) (by kernel_rfl) (by kernel_rfl) (fun _ _ _ h => h) (Or.inl ⟨by rfl, ?yq82⟩) (by assumption) ?rq82
              case yq82 => (intro w' hSw; obtain ⟨s0, s1, s2, s3, s4, s5⟩ := hSw; (try dsimp only at s0 s1 s2 s3 s4 s5); go_simp; first | done | with_reducible rfl)
              (try simp only [Act.put, List.setIfInBounds_toArray, List.set_cons_zero, List.set_cons_succ])
              refine wpAnyH_take (i := 3) (v := ?vq83) (by simp; rfl) (by kernel_rfl) (by kernel_rfl) (by kernel_rfl) (fun _ _ _ h => h) (Or.inl ⟨by rfl, ?yq83⟩) (by assumption) ?rq83
              case yq83 => (intro w' hSw; obtain ⟨s0, s1, s2, s3, s4, s5⟩ := hSw; (try dsimp only at s0 s1 s2 s3 s4 s5); go_simp; first | done | with_reducible rfl)
              (try simp only [Act.put, List.setIfInBounds_toArray, List.set_cons_zero, List.set_cons_succ])
              refine wpAnyH_take (i := 4) (v := ?vq84) (by simp; rfl) (by kernel_rfl) (by kernel_rfl) (by kernel_rfl) (fun _ _ _ h => h) (Or.inl ⟨by rfl, ?yq84⟩) (by assumption) ?rq84
              case yq84 => (intro w' hSw; obtain ⟨s0, s1, s2, s3, s4, s5⟩ := hSw; (try dsimp only at s0 s1 s2 s3 s4 s5); go_simp; first | done | with_reducible rfl)
              (try simp only [Act.put, List.setIfInBounds_toArray, List.set_cons_zero, List.set_cons_succ])
              refine wpAnyH_ready (rs := [5]) (by kernel_rfl) (by simp) ?_
              refine AllReadyH.cons (by simp; rfl) (fun K hK => ?_) AllReadyH.nil
              go_simp
              (first | (go_at_call 68; refine (within_t _ _ _ _ (by assumption)).mono ?_; rintro e w1 ⟨rfl, rfl⟩) | (go_at_call 68; refine (within_any _ _ _ _).mono ?_; rintro e w1 ⟨rfl, rfl⟩))
              refine hK.out _ _ ?_ (fun hHeld => ?_)
              · (try dsimp only)
                (first | exact hHeld | (exact ⟨(far3 (by omega)).trans p0, (far3 (by omega)).trans p1, (far3 (by omega)).trans p2, (far3 (by omega)).trans e0, (far3 (by omega)).trans e1, (far3 (by omega)).trans e1⟩) | (exact ⟨p0, p1, p2, e0, e1, e1⟩))
              clear hK K
              (try simp only [Act.put, List.setIfInBounds_toArray, List.set_cons_zero, List.set_cons_succ])
              refine wpAnyH_take (i := 6) (v := ?vq86) (by simp; rfl) (by kernel_rfl) (by kernel_rfl) (by kernel_rfl) (fun _ _ _ h => h) (Or.inl ⟨by rfl, ?yq86⟩) (by assumption) ?rq86
              case yq86 => (intro w' hSw; obtain ⟨s0, s1, s2, s3, s4, s5⟩ := hSw; (try dsimp only at s0 s1 s2 s3 s4 s5); go_simp; first | done | with_reducible rfl)
              (try simp only [Act.put, List.setIfInBounds_toArray, List.set_cons_zero, List.set_cons_succ])
              refine wpAnyH_take (i := 7) (v := ?vq87) (by simp; rfl) (by kernel_rfl) (by kernel_rfl) (by kernel_rfl) (fun _ _ _ h => h) (Or.inl ⟨by rfl, ?yq87⟩) (by assumption) ?rq87
              case yq87 => (intro w' hSw; obtain ⟨s0, s1, s2, s3, s4, s5⟩ := hSw; (try dsimp only at s0 s1 s2 s3 s4 s5); go_simp; first | done | with_reducible rfl)
              (try simp only [Act.put, List.setIfInBounds_toArray, List.set_cons_zero, List.set_cons_succ])
              refine wpAnyH_take (i := 8) (v := ?vq88) (by simp; rfl) (by kernel_rfl) (by kernel_rfl) (by kernel_rfl) (fun _ _ _ h => h) (Or.inl ⟨by rfl, ?yq88⟩) (by assumption) ?rq88
              case yq88 => (intro w' hSw; obtain ⟨s0, s1, s2, s3, s4, s5⟩ := hSw; (try dsimp only at s0 s1 s2 s3 s4 s5); go_simp; first | done | with_reducible rfl)
              (try simp only [Act.put, List.setIfInBounds_toArray, List.set_cons_zero, List.set_cons_succ])
              refine wpAnyH_take (i := 9) (v := ?vq89) (by simp; rfl) (by kernel_rfl) (by kernel_rfl) (by kernel_rfl) (fun _ _ _ h => h) (Or.inl ⟨by rfl, ?yq89⟩) (by assumption) ?rq89
              case yq89 => (intro w' hSw; obtain ⟨s0, s1, s2, s3, s4, s5⟩ := hSw; (try dsimp only at s0 s1 s2 s3 s4 s5); go_simp; first | done | with_reducible rfl)
              (try simp only [Act.put, List.setIfInBounds_toArray, List.set_cons_zero, List.set_cons_succ])
              refine wpAnyH_take (i := 10) (v := ?vq90) (by simp; rfl) (by kernel_rfl) (by kernel_rfl) (by kernel_rfl) (fun _ _ _ h => h) (Or.inl ⟨by rfl, ?yq90⟩) (by assumption) ?rq90
              case yq90 => (intro w' hSw; obtain ⟨s0, s1, s2, s3, s4, s5⟩ := hSw; (try dsimp only at s0 s1 s2 s3 s4 s5); go_simp; first | done | with_reducible rfl)
              (try simp only [Act.put, List.setIfInBounds_toArray, List.set_cons_zero, List.set_cons_succ])
              refine wpAnyH_take (i := 11) (v := ?vq91) (by simp; rfl) (by kernel_rfl) (by kernel_rfl) (by kernel_rfl) (fun _ _ _ h => h) (Or.inl ⟨by rfl, ?yq91⟩) (by assumption) ?rq91
              case yq91 => (intro w' hSw; obtain ⟨s0, s1, s2, s3, s4, s5⟩ := hSw; (try dsimp only at s0 s1 s2 s3 s4 s5); go_simp; first | done | with_reducible rfl)
              (try simp only [Act.put, List.setIfInBounds_toArray, List.set_cons_zero, List.set_cons_succ])
              refine wpAnyH_take (i := 12) (v := ?vq92) (by simp; rfl) (by kernel_rfl) (by kernel_rfl) (by kernel_rfl) (fun _ _ _ h => h) (Or.inl ⟨by rfl, ?yq92⟩) (by assumption) ?rq92
              case yq92 => (intro w' hSw; obtain ⟨s0, s1, s2, s3, s4, s5⟩ := hSw; (try dsimp only at s0 s1 s2 s3 s4 s5); go_simp; first | done | with_reducible rfl)
              (try simp only [Act.put, List.setIfInBounds_toArray, List.set_cons_zero, List.set_cons_succ])
              refine wpAnyH_take (i := 13) (v := ?vq93) (by simp; rfl) (by kernel_rfl) (by kernel_rfl) (by kernel_rfl) (fun _ _ _ h => h) (Or.inl ⟨by rfl, ?yq93⟩) (by assumption) ?rq93
              case yq93 => (intro w' hSw; obtain ⟨s0, s1, s2, s3, s4, s5⟩ := hSw; (try dsimp only at s0 s1 s2 s3 s4 s5); go_simp; first | done | with_reducible rfl)
              (try simp only [Act.put, List.setIfInBounds_toArray, List.set_cons_zero, List.set_cons_succ])
              refine wpAnyH_take (i := 14) (v := ?vq94) (by simp; rfl) (by kernel_rfl) (by kernel_rfl) (by kernel_rfl) (fun _ _ _ h => h) (Or.inl ⟨by rfl, ?yq94⟩) (by assumption) ?rq94
              case yq94 => (intro w' hSw; obtain ⟨s0, s1, s2, s3, s4, s5⟩ := hSw; (try dsimp only at s0 s1 s2 s3 s4 s5); go_simp; first | done | with_reducible rfl)
              (try simp only [Act.put, List.setIfInBounds_toArray, List.set_cons_zero, List.set_cons_succ])
              refine wpAnyH_ready (rs := [15]) (by kernel_rfl) (by simp) ?_
              refine AllReadyH.cons (by simp; rfl) (fun K hK => ?_) AllReadyH.nil
              go_simp
              (first | (go_at_call 68; refine (within_t _ _ _ _ (by assumption)).mono ?_; rintro e w1 ⟨rfl, rfl⟩) | (go_at_call 68; refine (within_any _ _ _ _).mono ?_; rintro e w1 ⟨rfl, rfl⟩))
              refine hK.out _ _ ?_ (fun hHeld => ?_)
              · (try dsimp only)
                (first | exact hHeld | (exact ⟨(far3 (by omega)).trans p0, (far3 (by omega)).trans p1, (far3 (by omega)).trans p2, (far3 (by omega)).trans e0, (far3 (by omega)).trans e1, (far3 (by omega)).trans e1⟩) | (exact ⟨p0, p1, p2, e0, e1, e1⟩))
              clear hK K
              (try simp only [Act.put, List.setIfInBounds_toArray, List.set_cons_zero, List.set_cons_succ])
              refine wpAnyH_take (i := 16) (v := ?vq96) (by simp; rfl) (by kernel_rfl) (by kernel_rfl) (by kernel_rfl) (fun _ _ _ h => h) (Or.inl ⟨by rfl, ?yq96⟩) (by assumption) ?rq96
              case yq96 => (intro w' hSw; obtain ⟨s0, s1, s2, s3, s4, s5⟩ := hSw; (try dsimp only at s0 s1 s2 s3 s4 s5); go_simp; first | done | with_reducible rfl)
              (try simp only [Act.put, List.setIfInBounds_toArray, List.set_cons_zero, List.set_cons_succ])
              refine wpAnyH_ready (rs := [17]) (by kernel_rfl) (by simp) ?_
              refine AllReadyH.cons (by simp; rfl) (fun K hK => ?_) AllReadyH.nil
              go_simp
              go_wp2
              refine hK.out _ _ ?_ (fun hHeld => ?_)
              · (try dsimp only)
                (first | exact hHeld | (exact ⟨(far3 (by omega)).trans p0, (far3 (by omega)).trans p1, (far3 (by omega)).trans p2, (far3 (by omega)).trans e0, (far3 (by omega)).trans e1, (far3 (by omega)).trans e1⟩) | (exact ⟨p0, p1, p2, e0, e1, e1⟩))
              clear hK K
              (try simp only [Act.put, List.setIfInBounds_toArray, List.set_cons_zero, List.set_cons_succ])
              refine wpAnyH_take (i := 18) (v := ?vq98) (by simp; rfl) (by kernel_rfl) (by kernel_rfl) (by kernel_rfl) (fun _ _ _ h => h) (Or.inl ⟨by rfl, ?yq98⟩) (by assumption) ?rq98
              case yq98 => (intro w' hSw; obtain ⟨s0, s1, s2, s3, s4, s5⟩ := hSw; (try dsimp only at s0 s1 s2 s3 s4 s5); go_simp; first | done | with_reducible rfl)
              (try simp only [Act.put, List.setIfInBounds_toArray, List.set_cons_zero, List.set_cons_succ])
              refine wpAnyH_done (by kernel_rfl) ?_ _
              refine NoPanic.normal ?_
              go_wp2
              all_goals exact bodyPost_ret (v := .tuple #[.agg #[.int .u8 100, .slice (some ⟨g, 0, none⟩) 2 cap, .string s], .bool (inB n0 0 n1)]) (by simp [results, Tryz.results117, go_sem, *]) rfl ⟨_, _, _, _, _, (by rw [HF.out.1]), (fun x hx => by
                obtain rfl := HF.out.2 x hx
                exact ⟨rfl, (by (repeat' (first | exact hnm | (refine NumsAt.far ?_ (fun k hk => by have := hgz k hk; simp; omega) _) | (apply NumsAt.drewN) | (apply NumsAt.drew)))), fun k hk => by have := hgz k hk; omega⟩), (by exact below_)⟩
          have hc1 : ((c.toNat : Int) == 114) = false := u8_ne h114
          have hc2 : ((c.toNat : Int) == 102) = false := u8_ne h102
          have hc3 : ((c.toNat : Int) == 97) = false := u8_ne h97
          have hc4 : ((c.toNat : Int) == 100) = false := u8_ne h100
          obtain ⟨F1, F2⟩ := pc_fin HW.out HA.out (c := c) (b := false) (by show (if c = 114 ∨ c = 102 then dirOk n0 n1 else if c = 97 ∨ c = 100 then inB n1 1 100 && inB n0 0 n1 else false) = _; rw [if_neg (fun hh => hh.elim h114 h102), if_neg (fun hh => hh.elim h97 h100)])
          have HF := Lib.hid (And.intro F1 F2)
          clear F1 F2
          go_wp2
          all_goals exact bodyPost_ret (v := .tuple #[.agg #[.int .u8 c.toNat, .slice (some ⟨g, 0, none⟩) 2 cap, .string s], .bool (false)]) (by simp [results, Tryz.results117, go_sem, *]) rfl ⟨_, _, _, _, _, (by rw [HF.out.1]), (fun x hx => by
            obtain rfl := HF.out.2 x hx
            exact ⟨rfl, (by (repeat' (first | exact hnm | (refine NumsAt.far ?_ (fun k hk => by have := hgz k hk; simp; omega) _) | (apply NumsAt.drewN) | (apply NumsAt.drew)))), fun k hk => by have := hgz k hk; omega⟩), (by exact below_)⟩
        · have hf : pcOk c ns = false := pc_len2 h3 hn3
          obtain ⟨F1, F2⟩ := pc_fin HW.out HA.out (c := c) (b := false) (by exact hf)
          have HF := Lib.hid (And.intro F1 F2)
          clear F1 F2
          have hw : 0 < ns.length := by have := cutL_ne 58 r; rw [HW.out] at this; have := List.length_pos_iff.2 this; omega
          obtain ⟨g, cap, rfl, hcap, hcapm, hgb, hgl, hgc⟩ := hR.n.at hw
          obtain ⟨⟨p0, p1, p2⟩, f0, f1, f2⟩ := blk_pc hR.p
          obtain ⟨⟨r0, r1, r2⟩, g0, g1, g2⟩ := blk_pc hR.r
          have hBw := hR.B
          clear hR hgc
          have hq : ((ns.length : Int) != 2) = true := by simp; omega
          go_wp2
          exact bodyPost_ret (v := .tuple #[.agg #[.int .u8 c.toNat, .slice (some ⟨g, 0, none⟩) ns.length cap, .string s], .bool false]) (by simp [results, Tryz.results117, go_sem, *]) rfl ⟨_, _, _, _, _, (by rw [HF.out.1]), (fun x hx => by have := HF.out.1; rw [hx] at this; cases this), (by exact below_)⟩
theorem readPiece_l (l : List UInt8) (ok : Bool) (w : World) (hs : l.length ≤ 1048576) (hG : GL w) (hok : Hid ((pieceI l).isSome = ok)) :
    Calls Tryz.prog 117 #[.string ⟨l.toArray⟩] w fun e w' => ∃ kk A len cap b, e = .returned (.tuple #[.agg #[.int .u8 kk, .slice A len cap, .string b], .bool ok]) ∧
      Hid (∀ x, pieceI l = some x → kk = x.k.toNat ∧ NumsAt w' (.slice A len cap) x.ns ∧ ∀ k, (Value.slice A len cap).ownBlock = some k → w.heap.size ≤ k) ∧ Below w.heap.size w w' := by
  cases l with
  | nil =>
    have hk : ok = false := hok.out.symm
    subst hk
    exact (readPiece_nil w).mono fun e w' ⟨h1, h2⟩ => ⟨_, _, _, _, _, h1, Lib.hid (fun x h => by cases h), h2⟩
  | cons c r =>
    have h := readPiece_cons ⟨(c :: r).toArray⟩ c r rfl w (by rw [Lib.size_eq]; simpa using hs) hG
    simp only [hok.out] at h
    exact h
end Go.Proofs.YtkdggljioekkhaaGreatDoor
