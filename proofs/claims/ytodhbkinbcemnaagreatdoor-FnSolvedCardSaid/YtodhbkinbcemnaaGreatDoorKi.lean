/-
  The walk of the program's solve.
-/
import Derived.Test.YtodhbkinbcemnaaGreatDoorPe
namespace Go.Proofs.YtodhbkinbcemnaaGreatDoor
set_option linter.unusedSimpArgs false
set_option linter.unusedVariables false
open Go.RowKit
attribute [local go_sem ↓] Go.wp_at_zero Go.wp_at_succ
def arrV : Option (List Fr) → Value
  | some [x, y, z, u] => .tuple #[.agg #[.int .i64 x.re, .int .i64 x.im, .int .i64 x.den, .int .i64 y.re, .int .i64 y.im, .int .i64 y.den, .int .i64 z.re, .int .i64 z.im, .int .i64 z.den, .int .i64 u.re, .int .i64 u.im, .int .i64 u.den], .bool true]
  | _ => .tuple #[.agg #[.int .i64 0, .int .i64 0, .int .i64 0, .int .i64 0, .int .i64 0, .int .i64 0, .int .i64 0, .int .i64 0, .int .i64 0, .int .i64 0, .int .i64 0, .int .i64 0], .bool false]
theorem frq_eq (a b : Fr) : (a.re == b.re && (a.im == b.im && a.den == b.den)) = (a == b) := by
  obtain ⟨x, y, z⟩ := a
  obtain ⟨x', y', z'⟩ := b
  rw [Bool.eq_iff_iff]
  simp [Fr.mk.injEq]
theorem det3 : DetC 3 := det_step 2 (by omega) (det_step 1 (by omega) (det_step 0 (by omega) det_zero))
theorem OwRs.readA {base bs : Nat} {v : Value} {xss : List (List Fr)} {w : World} (h : OwRs base v xss w) (hb : w.heap.size ≤ bs) : ∃ A cap, v = .slice A xss.length cap ∧ RowsAt bs A xss.length cap xss w := by
  obtain ⟨hdrs, ho, hr⟩ := h
  rcases ho.2 with ⟨rfl, h0⟩ | ⟨g, cap, cur, rfl, hbg, hg, hn, hm, hs, ht⟩
  · exact ⟨none, 0, by rw [h0], rfl, by omega, by omega, fun h => by omega⟩
  · have hlt := (Array.getElem?_eq_some_iff.1 hg).1
    have hc := World.ownsRow.cells ho (g := g) rfl
    refine ⟨some ⟨g, 0, none⟩, cap, rfl, rfl, hn, by unfold maxLen at hm; omega, fun _ => ⟨g, 0, rfl, hlt, by omega, fun i xs hi => ?_⟩⟩
    obtain ⟨A, c, k1, k2, k3⟩ := hr i xs hi
    have := hc i _ k1
    rw [add_noneF] at this
    exact ⟨A, c, by rw [Nat.zero_add]; exact this, k2, fun b o e => by have := (k3 b o e).2.2; omega⟩
/-- What solve's own memory holds. -/
structure TV (w : World) (bs bb bo : Nat) (bot : Fr) (xs : List Fr) (bad : Bool) (W : World) : Prop where
  r : ArrW W w.heap.size zs4
  s : SumIs W bs bad
  t : FrG W bb bot
  o : ArrW W bo xs
  B : Below w.heap.size w W
  d : w.heap.size < bs ∧ bs < bb ∧ bb < bo
section
variable {w W w1 : World} {bs bb bo : Nat} {bot : Fr} {xs : List Fr} {bad : Bool}
theorem TV.below (h : TV w bs bb bo bot xs bad W) (hb : Below W.heap.size W w1) : TV w bs bb bo bot xs bad w1 := ⟨h.r.below hb, h.s.below hb h.s.lt, h.t.below hb, h.o.below hb, bstep h.B hb h.B.size, h.d⟩
theorem TV.alloc (h : TV w bs bb bo bot xs bad W) (o : Obj) : TV w bs bb bo bot xs bad (W.alloc o) := h.below ((Below.refl _ _).alloc (Nat.le_refl _) o)
theorem TV.drew (h : TV w bs bb bo bot xs bad W) : TV w bs bb bo bot xs bad W.drew := ⟨h.r.drew, h.s.drew, h.t.drew, h.o.drew, h.B.drew, h.d⟩
theorem TV.drewN (h : TV w bs bb bo bot xs bad W) (n : Nat) : TV w bs bb bo bot xs bad (W.drewN n) := ⟨h.r.drewN n, h.s.drewN n, h.t.drewN n, h.o.drewN n, below_drewN h.B n, h.d⟩
theorem TV.belX (h : TV w bs bb bo bot xs bad W) (hb : BelX W.heap.size bs W w1) {c : Bool} (hs : SumIs w1 bs c) : TV w bs bb bo bot xs c w1 := by
  obtain ⟨d0, d1, d2⟩ := h.d
  exact ⟨h.r.step hb (by omega), hs, h.t.step hb h.t.lt (by omega), h.o.step hb (by omega), (BelX.step (BelX.of h.B) hb h.B.size).below (by omega), h.d⟩
theorem TV.put (h : TV w bs bb bo bot xs bad W) {i : Nat} (hi : i < xs.length) (s : Fr) : TV w bs bb bo bot (xs.set i s) bad (((W.setCell ⟨bo, i * 3, none⟩ (.int .i64 s.re)).setCell ⟨bo, i * 3 + 1, none⟩ (.int .i64 s.im)).setCell ⟨bo, i * 3 + 2, none⟩ (.int .i64 s.den)) := by
  obtain ⟨d0, d1, d2⟩ := h.d
  exact ⟨((h.r.far (by simp; omega) _).far (by simp; omega) _).far (by simp; omega) _, ((h.s.far (by simp; omega) _).far (by simp; omega) _).far (by simp; omega) _, ((h.t.far (by simp; omega) _).far (by simp; omega) _).far (by simp; omega) _, h.o.put hi s, ((h.B.setCell (by simp; omega) _).setCell (by simp; omega) _).setCell (by simp; omega) _, h.d⟩
theorem TV.grown {row : Option Nat} (h : TV w bs bb bo bot xs bad W) (hg : W.grownBy w1 row) (hr : ∀ k, row = some k → bo < k) : TV w bs bb bo bot xs bad w1 := by
  obtain ⟨d0, d1, d2⟩ := h.d
  have hk : ∀ b, b ≤ bo → b < W.heap.size → w1.heap[b]? = W.heap[b]? := fun b h1 h2 => hg.block b h2 (fun e => by have := hr b e.symm; omega)
  have e := hk bb (by omega) h.t.lt
  have c := fun o => World.cell?_of_block (w := W) (w' := w1) (a := ⟨bb, o, none⟩) e
  exact ⟨h.r.same (hk _ (by omega) h.r.l), (hk bs (by omega) h.s.lt).trans h.s, ⟨(c 0).trans h.t.c0, (c 1).trans h.t.c1, (c 2).trans h.t.c2, fun o => (World.frozen?_of_block (w := W) (w' := w1) (a := ⟨bb, o, none⟩) e).trans (h.t.f o)⟩, h.o.same (hk _ (Nat.le_refl _) h.o.l), Below.grown h.B hg h.B.size (fun k e => by have := hr k e; omega), h.d⟩
end
theorem wpList_appF {ops : Array Oper} {rest : List Oper} {o : Oper} {a : Act} {Q : Exit → Act → World → Prop} (hgd : o.guard = none) (s x : Operand) (ho : o.op = .call { callee := .builtin .append, args := #[s, x], argTypes := #[31, 31] })
    (base : Nat) (v : Value) (ys : List Fr) (W : World) (hs : a.eval s = v) (hO : OwF base v ys W) (A' : Option Addr) (m c : Nat) (zs : List Fr) (hx : a.eval x = .slice A' m c) (hl : zs.length = m)
    (hA : ∃ bb off : Nat, A' = some ⟨bb, off, none⟩ ∧ ∀ i z, zs[i]? = some z → FAt W bb (off + i * 3) z) (hlen : ys.length + m < 4000000) (hb : base ≤ W.heap.size)
    (h : ∀ v' w', OwF base v' (ys ++ zs) w' → W.grownBy w' v.ownBlock → (v'.ownBlock = v.ownBlock ∨ v'.ownBlock = some W.heap.size) → wpList Tryz.prog ops Q rest (a.put o.dst v') w') : wpList Tryz.prog ops Q (o :: rest) a W :=
  wpList_plain hgd fun _ hK => wp_appF s x ho base v ys W hs hO A' m c zs hx hl hA hlen hb fun v' w' h2 h3 h4 => hK _ _ (h v' w' h2 h3 h4)
theorem wpList_appR {ops : Array Oper} {rest : List Oper} {o : Oper} {a : Act} {Q : Exit → Act → World → Prop} (hgd : o.guard = none) (s x : Operand) (ho : o.op = .call { callee := .builtin .append, args := #[s, x], argTypes := #[88, 88] })
    (base : Nat) (v : Value) (yss : List (List Fr)) (W : World) (hs : a.eval s = v) (hO : OwRs base v yss W) (gb c : Nat) (hx : a.eval x = .slice (some ⟨gb, 0, none⟩) 1 c)
    (rb : Nat) (rv : Value) (zs : List Fr) (hz : OwF rb rv zs W) (hzn : ∀ k, v.ownBlock = some k → k < rb) (hrb : base ≤ rb) (hcell : W.cell? ⟨gb, 0, none⟩ = some rv) (hlen : yss.length + 1 < 4000000) (hb : base ≤ W.heap.size)
    (h : ∀ v' w', OwRs base v' (yss ++ [zs]) w' → W.grownBy w' v.ownBlock → wpList Tryz.prog ops Q rest (a.put o.dst v') w') : wpList Tryz.prog ops Q (o :: rest) a W :=
  wpList_plain hgd fun _ hK => wp_appR s x ho base v yss W hs hO gb c hx rb rv zs hz hzn hrb hcell hlen hb fun v' w' h2 h3 => hK _ _ (h v' w' h2 h3)
theorem x_over_m (a b p : Fr) (pn : Bool) (bs : Nat) (w : World) (hs : SumEx w bs) (hG : GZ w) (hp : Hid ((overI a b).getD ⟨0, 0, 0⟩ = p)) (hn : Hid ((overI a b).isNone = pn)) :
    Calls Tryz.prog 43 #[.pointer (some ⟨bs, 0, none⟩), frv a, frv b] w fun e w' => e = .returned (frv p) ∧ (∀ c, SumIs w bs c → SumIs w' bs (c || pn)) ∧ BelX w.heap.size bs w w' := by
  rw [← hp.out, ← hn.out]; exact x_over a b bs w hs hG
theorem sol_next {rows : List (List Fr)} {rs : List Fr} {bot dv ov : Fr} {db on : Bool} {k : Nat} (hk : k < 4) (hd : dv = (detI 3 (colK k rows rs)).1) (hb : db = (detI 3 (colK k rows rs)).2) (ho : (overI dv bot).getD ⟨0, 0, 0⟩ = ov) (hn : (overI dv bot).isNone = on) :
    (solIK rows rs bot (k + 1)).1 ++ zs4.drop (k + 1) = ((solIK rows rs bot k).1 ++ zs4.drop k).set k ov ∧ (solIK rows rs bot (k + 1)).2 = (((solIK rows rs bot k).2 || db) || on) := by
  have e : solIK rows rs bot (k + 1) = ((solIK rows rs bot k).1 ++ [ov], ((solIK rows rs bot k).2 || db) || on) := by
    simp only [solIK, ← hd, ← hb, zK, ho, hn]
  rw [e]
  refine ⟨?_, rfl⟩
  have hl := sol_len rows rs bot k
  rw [List.set_append, if_neg (by omega), hl, Nat.sub_self]
  have h4 : k = 0 ∨ k = 1 ∨ k = 2 ∨ k = 3 := by omega
  rcases h4 with rfl | rfl | rfl | rfl <;> simp [zs4]
theorem col_get {k i : Nat} {rows : List (List Fr)} {rs : List Fr} {r : List Fr} {f : Fr} (h : rows[i]? = some r) (h2 : rs[i]? = some f) : (colK k rows rs).take (i + 1) = (colK k rows rs).take i ++ [r.set k f] := by
  rw [List.take_add_one]
  have : (colK k rows rs)[i]? = some (r.set k f) := by simp [colK, List.getElem?_zipWith, h, h2]
  rw [this]
  rfl
set_option maxRecDepth 100000 in
set_option maxHeartbeats 16000000 in
theorem solve_any (A : Option Addr) (len cap : Nat) (rows : List (List Fr)) (A2 : Option Addr) (len2 cap2 : Nat) (rs : List Fr) (w : World) (hR0 : ∀ bs, w.heap.size ≤ bs → RowsAt bs A len cap rows w) (hrl : ∀ r ∈ rows, r.length = 4) (hF : Frs A2 len2 cap2 rs w) (hG : GZ w) :
    Calls Tryz.prog 55 #[.slice A len cap, .slice A2 len2 cap2] w fun e w' => e = .returned (arrV (solI rows rs)) ∧ Below w.heap.size w w' := by
  have hl := hF.2.1
  have hm := hF.2.2.1
  have hcapA := (hR0 _ (Nat.le_refl _)).2.1
  have hcapB := (hR0 _ (Nat.le_refl _)).2.2.1
  have HL := Lib.hid (hR0 _ (Nat.le_refl _)).1
  have HL2 := Lib.hid hF.1
  have HR0 := Lib.hid hR0
  have HRL := Lib.hid hrl
  clear hR0 hrl
  obtain ⟨R, hR⟩ : ∃ R, R = arrV (solI rows rs) := ⟨_, rfl⟩
  rw [← hR]
  have HR := Lib.hid hR
  clear hR
  have hA0 := ArrW.zero w 26
  have hB0 : Below w.heap.size w (w.alloc (.cells #[.int .i64 0, .int .i64 0, .int .i64 0, .int .i64 0, .int .i64 0, .int .i64 0, .int .i64 0, .int .i64 0, .int .i64 0, .int .i64 0, .int .i64 0, .int .i64 0] 26)) := by exact below_
  go_enter Tryz.func55, Tryz.ntmps55
  go_wp2
  go_loopw [18] (fun i wr => ∃ k : Nat, k ≤ len2 ∧ i = .int .i64 k ∧ Hid ((rs.take k).all realOk = true) ∧ ArrW wr w.heap.size zs4 ∧ Below w.heap.size w wr) (fun i _ => len2 - (intOf i).toNat)
  case atStart => exact ⟨0, Nat.zero_le _, rfl, rfl, hA0, hB0⟩
  case round =>
    clear hA0 hB0
    obtain ⟨k, hk, rfl, hall, hA, hB⟩ := hrel
    have hz := hB.size
    have hal := hA.l
    by_cases hkl : k < len2
    · obtain ⟨b1, o1, s, rfl, hlt1, hs1, hc1⟩ := hF.at hB hkl
      obtain ⟨c0, c1, c2⟩ := hc1
      have HS1 := Lib.hid hs1
      clear hs1
      go_wp2_with (go_at_call 59; (with_reducible refine (realOk_any s _).mono ?_); rintro e w1 ⟨rfl, hb⟩; refine Hid.out ?_)
      refine Lib.hid ?_
      have hA1 := (hA.alloc (.cells #[.int .i64 s.re, .int .i64 s.im, .int .i64 s.den] 25)).below hb
      have hB1 : Below w.heap.size w w1 := bstep (hB.alloc hz _) hb (by simp; omega)
      have hal := hA1.l
      clear hb
      cases hr : realOk s
      · have he : solI rows rs = none := by
          unfold solI
          rw [all_fails HS1.out hr]
          rfl
        obtain ⟨z0, z1, z2, z3, z4, z5, z6, z7, z8, z9, z10, z11⟩ := hA1.z
        have hzf := hA1.f
        go_wp2
        exact bodyPost_ret (v := .tuple #[.agg #[.int .i64 0, .int .i64 0, .int .i64 0, .int .i64 0, .int .i64 0, .int .i64 0, .int .i64 0, .int .i64 0, .int .i64 0, .int .i64 0, .int .i64 0, .int .i64 0], .bool false]) (by simp [results, Tryz.results55, go_sem, *]) rfl ⟨by rw [HR.out, he]; rfl, by exact below_⟩
      · have HRR := Lib.hid hr
        go_wp2
        go_roundw
        case rel => exact ⟨k + 1, by omega, by go_num, by rw [Hid, all_succ HS1.out, hall.out, HRR.out]; rfl, hA1, hB1⟩
        case measure => simp [intOf]; omega
    · obtain rfl : k = len2 := by omega
      have hreal : rs.all realOk = true := by
        have := hall.out
        rwa [List.take_of_length_le (by have := HL2.out; omega)] at this
      have HREAL := Lib.hid hreal
      clear hreal hall
      obtain ⟨z0, z1, z2, z3, z4, z5, z6, z7, z8, z9, z10, z11⟩ := hA.z
      have hzf := hA.f
      by_cases hl4 : len = 4
      · by_cases hk4 : k = 4
        · subst hl4 hk4
          have hshp : Shape 3 rows := ⟨HL.out, HRL.out⟩
          obtain ⟨bt, hbt⟩ : ∃ x, x = (detI 3 rows).1 := ⟨_, rfl⟩
          obtain ⟨b0, hb0⟩ : ∃ x, x = (detI 3 rows).2 := ⟨_, rfl⟩
          obtain ⟨bs, hbs⟩ : ∃ x, x = wr.heap.size := ⟨_, rfl⟩
          have hs0 : SumIs (wr.alloc (.cells #[.bool false] 64)) bs false := SumIs.new' hbs
          have hRw : RowsAt bs A 4 cap rows (wr.alloc (.cells #[.bool false] 64)) := (HR0.out bs (by omega)).belX (BelX.of (hB.alloc hz _))
          have HD : Hid (∀ W, RowsAt bs A 4 cap rows W → SumEx W bs → Calls Tryz.prog 87 #[.pointer (some ⟨bs, 0, none⟩), .slice A 4 cap] W fun e w' => e = .returned (frv bt) ∧ (∀ c, SumIs W bs c → SumIs w' bs (c || b0)) ∧ BelX W.heap.size bs W w') := Lib.hid (fun W h1 h2 => by rw [hbt, hb0]; exact det3 A cap bs rows W hshp h1 h2)
          have HBT := Lib.hid hbt
          have HB0 := Lib.hid hb0
          clear hbt hb0 z0 z1 z2 z3 z4 z5 z6 z7 z8 z9 z10 z11 hzf
          go_wp2_with (go_at_call 87; (with_reducible refine (Calls.mono (by have := HD.out _ hRw (SumEx.of hs0); rw [hbs] at this; exact this) ?_)); rintro e w1 ⟨rfl, hu, hx⟩; refine Hid.out ?_)
          refine Lib.hid ?_
          rw [← hbs] at hx ⊢
          have hs1 := hu _ (hbs ▸ hs0)
          rw [← hbs, Bool.false_or] at hs1
          have hA1 := (hA.alloc (.cells #[.bool false] 64)).step hx (by omega)
          have hB1 : Below w.heap.size w w1 := (BelX.step (BelX.of (hB.alloc hz _)) hx (by simp; omega)).below (by omega)
          have hl1 := hs1.lt
          have hd0 : w.heap.size < bs := by have := hA.l; omega
          clear hu hx hs0 hRw hA hB hz hbs hal
          have hT1 := FrG.new w1 bt 25
          have hAa := hA1.alloc (.cells #[.int .i64 bt.re, .int .i64 bt.im, .int .i64 bt.den] 25)
          have hsa := hs1.alloc (.cells #[.int .i64 bt.re, .int .i64 bt.im, .int .i64 bt.den] 25)
          have hBa : Below w.heap.size w (w1.alloc (.cells #[.int .i64 bt.re, .int .i64 bt.im, .int .i64 bt.den] 25)) := hB1.alloc hB1.size _
          have hlb : w1.heap.size < (w1.alloc (.cells #[.int .i64 bt.re, .int .i64 bt.im, .int .i64 bt.den] 25)).heap.size := by simp
          have hGa := hG.below hBa
          obtain ⟨hgl, hgv0, hgv1, hgv2⟩ := hGa
          obtain ⟨t0, t1, t2, tf⟩ := id hT1
          have hcs := hsa.cell
          obtain ⟨z0, z1, z2, z3, z4, z5, z6, z7, z8, z9, z10, z11⟩ := hAa.z
          have hzf := hAa.f
          cases hbb : b0
          case true =>
            have he : solI rows rs = none := by
              unfold solI
              rw [← HB0.out, hbb]
              simp
            rw [hbb] at hcs
            go_wp2
            exact bodyPost_ret (v := .tuple #[.agg #[.int .i64 0, .int .i64 0, .int .i64 0, .int .i64 0, .int .i64 0, .int .i64 0, .int .i64 0, .int .i64 0, .int .i64 0, .int .i64 0, .int .i64 0, .int .i64 0], .bool false]) (by simp [results, Tryz.results55, go_sem, *]) rfl ⟨by rw [HR.out, he]; rfl, by exact below_⟩
          rw [hbb] at hcs hsa
          cases hzz : (bt == (⟨0, 0, 1⟩ : Fr))
          case true =>
            have he : solI rows rs = none := by
              unfold solI
              rw [← HBT.out, hzz]
              simp
            have hbe : bt = ⟨0, 0, 1⟩ := eq_of_beq hzz
            subst hbe
            go_wp2
            exact bodyPost_ret (v := .tuple #[.agg #[.int .i64 0, .int .i64 0, .int .i64 0, .int .i64 0, .int .i64 0, .int .i64 0, .int .i64 0, .int .i64 0, .int .i64 0, .int .i64 0, .int .i64 0, .int .i64 0], .bool false]) (by simp [results, Tryz.results55, go_sem, *]) rfl ⟨by rw [HR.out, he]; rfl, by exact below_⟩
          have hzc : (bt.re == 0 && (bt.im == 0 && bt.den == 1)) = false := by rw [← hzz]; exact frq_eq bt ⟨0, 0, 1⟩
          have HBB := Lib.hid hbb
          have HZZ := Lib.hid hzz
          have hT0 : TV w bs w1.heap.size (w1.heap.size + 1) bt ((solIK rows rs bt 0).1 ++ zs4.drop 0) (solIK rows rs bt 0).2 ((w1.alloc (.cells #[.int .i64 bt.re, .int .i64 bt.im, .int .i64 bt.den] 25)).alloc (.cells #[.int .i64 0, .int .i64 0, .int .i64 0, .int .i64 0, .int .i64 0, .int .i64 0, .int .i64 0, .int .i64 0, .int .i64 0, .int .i64 0, .int .i64 0, .int .i64 0] 26)) :=
            ⟨hAa.alloc _, hsa.alloc _, hT1.alloc _, (by have := ArrW.zero (w1.alloc (.cells #[.int .i64 bt.re, .int .i64 bt.im, .int .i64 bt.den] 25)) 26; simpa [solIK] using this), hBa.alloc hBa.size _, ⟨hd0, hl1, by omega⟩⟩
          clear hbb hzz z0 z1 z2 z3 z4 z5 z6 z7 z8 z9 z10 z11 hzf hT1 hAa hsa hBa hA1 hs1
          go_upto_region 11 with fail
          go_cut [49] from 41 to 49 (fun s49 wx => s49 = .bool false ∧ wx = w1.alloc (.cells #[.int .i64 bt.re, .int .i64 bt.im, .int .i64 bt.den] 25))
          case first =>
            cases h1 : (bt.re == 0)
            · go_wp2
              go_meet
              exact ⟨rfl, rfl⟩
            cases h2 : (bt.im == 0)
            · go_wp2
              go_meet
              exact ⟨rfl, rfl⟩
            cases h3 : (bt.den == 1)
            · go_wp2
              go_meet
              exact ⟨rfl, rfl⟩
            exfalso
            rw [h1, h2, h3] at hzc
            cases hzc
          case rest =>
          obtain ⟨rfl, rfl⟩ := hcut
          go_wp2
          obtain ⟨bb, hbbs⟩ : ∃ x, x = w1.heap.size := ⟨_, rfl⟩
          obtain ⟨bo, hbo⟩ : ∃ x, x = w1.heap.size + 1 := ⟨_, rfl⟩
          rw [← hbo, ← hbbs] at hT0 ⊢
          clear t0 t1 t2 tf hcs hgv0 hgv1 hgv2 hgl hlb hB1 hbbs hbo hl1
          go_loopw [52] (fun iv wr => ∃ k : Nat, k ≤ 4 ∧ iv = .int .i64 k ∧ TV w bs bb bo bt ((solIK rows rs bt k).1 ++ zs4.drop k) (solIK rows rs bt k).2 wr) (fun iv _ => 4 - (intOf iv).toNat)
          case atStart => exact ⟨0, by omega, rfl, hT0⟩
          case round =>
            clear hT0
            obtain ⟨k, hk, rfl, hT⟩ := hrel
            rename World => wo
            obtain ⟨xo, hxo⟩ : ∃ x, x = (solIK rows rs bt k).1 ++ zs4.drop k := ⟨_, rfl⟩
            obtain ⟨bd, hbd⟩ : ∃ x, x = (solIK rows rs bt k).2 := ⟨_, rfl⟩
            rw [← hxo, ← hbd] at hT
            have HXO := Lib.hid hxo
            have HBD := Lib.hid hbd
            clear hxo hbd
            have hz := hT.o.l
            have hdd := hT.d
            by_cases hk4 : k < 4
            · have hx2 : decide ((k : Int) < 4) = true := by simp; omega
              have hT1 := hT.alloc (.cells #[] 31)
              have hO0 := OwRs.made wo wo.heap.size (Nat.le_refl _)
              go_wp2
              go_loopw [12, 58] (fun v iv wr => ∃ i : Nat, i ≤ 4 ∧ iv = .int .i64 i ∧ OwRs wo.heap.size v ((colK k rows rs).take i) wr ∧ TV w bs bb bo bt xo bd wr ∧ wo.heap.size ≤ wr.heap.size) (fun _ iv _ => 4 - (intOf iv).toNat)
              case atStart => exact ⟨0, by omega, rfl, hO0, hT1, by simp⟩
              case round =>
                clear hT1 hO0
                obtain ⟨i, hi, rfl, hOi, hTi, hwi⟩ := hrel
                have hzi := hTi.o.l
                by_cases hi4 : i < 4
                · obtain ⟨bx, ox, A3, c3, r, rfl, -, -, hr, hcell, hFr, -⟩ := ((HR0.out bs (by omega)).belX (BelX.of hTi.B)).at (i := i) (by omega)
                  have hrl4 : r.length = 4 := HRL.out r (List.mem_of_getElem? hr)
                  rw [hrl4] at hcell hFr
                  obtain ⟨b2, o2, -, rfl, -, -, -⟩ := hFr.at (Below.refl _ _) (k := 0) (by omega)
                  obtain ⟨b5, o5, f, rfl, -, hf, -⟩ := hF.at hTi.B (k := i) hi4
                  have hCol := Lib.hid (col_get (k := k) hr hf)
                  have hAll : ∀ W', Below wr.heap.size wr W' → ∃ bb off : Nat, some (⟨b2, o2, none⟩ : Addr) = some ⟨bb, off, none⟩ ∧ ∀ j z, r[j]? = some z → FAt W' bb (off + j * 3) z := by
                    intro W' hW
                    refine ⟨b2, o2, rfl, fun j z hj => ?_⟩
                    obtain ⟨b', o', f', e, -, hf', hat⟩ := (hFr.below hW).at (Below.refl _ _) (k := j) (by have := (List.getElem?_eq_some_iff.1 hj).1; omega)
                    simp only [Option.some.injEq, Addr.mk.injEq, and_true] at e
                    obtain ⟨rfl, rfl⟩ := e
                    rw [hj] at hf'
                    obtain rfl := Option.some.inj hf'
                    exact hat
                  have hRd : ∀ W', Below w.heap.size w W' → FAt W' b5 (o5 + i * 3) f := by
                    intro W' hW
                    obtain ⟨b', o', f', e, -, hf', hat⟩ := hF.at hW (k := i) hi4
                    simp only [Option.some.injEq, Addr.mk.injEq, and_true] at e
                    obtain ⟨rfl, rfl⟩ := e
                    rw [hf] at hf'
                    obtain rfl := Option.some.inj hf'
                    exact hat
                  obtain ⟨x0, hkx⟩ : ∃ x0, r[k]? = some x0 := ⟨_, List.getElem?_eq_getElem (by omega)⟩
                  have HKX := Lib.hid hkx
                  have HRL4 := Lib.hid hrl4
                  have HAll := Lib.hid hAll
                  have HRd := Lib.hid hRd
                  have hml : ((colK k rows rs).take i).length + 1 < 4000000 := by rw [List.length_take]; omega
                  clear hr hf hFr hAll hRd hkx hrl4
                  have hbz : Below wr.heap.size wr (wr.alloc (.cells #[] 25)) := (Below.refl _ _).alloc (Nat.le_refl _) _
                  go_wp2_with (at_builtin; refine wpList_appF rfl (.tmp 63) (.tmp 64) rfl wr.heap.size _ [] _ (by rfl) (OwF.made wr wr.heap.size (Nat.le_refl _)) (some ⟨b2, o2, none⟩) 4 c3 r (by rfl) HRL4.out (HAll.out _ hbz) (by simp) hbz.size ?_; intro v1 w2 hO1 hg1 hat1; refine Hid.out ?_)
                  refine Lib.hid ?_
                  have hO2 : OwF wr.heap.size v1 r w2 := hO1
                  have hb2 : Below wr.heap.size wr w2 := Below.grown hbz hg1 hbz.size (fun kk e => by simp [Value.ownBlock] at e; omega)
                  obtain ⟨g, cp, e1, hgb, hgl, hat, hfz⟩ := hO2.at k x0 HKX.out
                  rw [HRL4.out] at e1
                  subst e1
                  obtain ⟨q0, q1, q2⟩ := hat
                  obtain ⟨p0, p1, p2⟩ := hfz
                  have hTw := hTi.below hb2
                  obtain ⟨f0, f1, f2⟩ := HRd.out w2 hTw.B
                  have i0 : (0 : Int) ≤ (k : Int) := by omega
                  have i1 : (k : Int) < 4 := by omega
                  have i2 : (0 : Int) ≤ (i : Int) := by omega
                  have i3 : (i : Int) < 4 := by omega
                  clear hO1 hg1 hat1 hbz hTw
                  go_upto_region 23 with fail
                  obtain ⟨W2, hW2⟩ : ∃ W, W = (((w2.setCell ⟨g, k * 3, none⟩ (.int .i64 f.re)).setCell ⟨g, k * 3 + 1, none⟩ (.int .i64 f.im)).setCell ⟨g, k * 3 + 2, none⟩ (.int .i64 f.den)) := ⟨_, rfl⟩
                  have hO3 : OwF wr.heap.size (.slice (some ⟨g, 0, none⟩) 4 cp) (r.set k f) W2 := by rw [hW2]; exact hO2.put rfl k (by rw [HRL4.out]; omega) f
                  have hb3 : Below wr.heap.size wr W2 := by rw [hW2]; exact ((hb2.setCell hgb _).setCell hgb _).setCell hgb _
                  rw [← hW2]
                  clear hW2 q0 q1 q2 p0 p1 p2 f0 f1 f2 hO2 hb2 hgl
                  go_wp2_with (at_builtin; refine wpList_appR rfl (.tmp 73) (.tmp 75) rfl wo.heap.size _ ((colK k rows rs).take i) _ (by rfl) ((OwRs.below (B := 0) hOi hb3).alloc _) W2.heap.size 1 (by rfl) wr.heap.size (.slice (some ⟨g, 0, none⟩) 4 cp) (r.set k f) (hO3.alloc _) (fun kk e => (hOi.lt kk e).2) hwi (World.cell?_alloc_at _ _ _ _ rfl) hml (Nat.le_trans hwi (Nat.le_trans hb3.size (by simp))) ?_; intro v3 w3 hO4 hg3; refine Hid.out ?_)
                  refine Lib.hid ?_
                  have hT3 : TV w bs bb bo bt xo bd w3 := TV.grown ((hTi.below hb3).alloc _) hg3 (fun kk e => Nat.lt_of_lt_of_le hz (hOi.lt kk e).1)
                  have hz3 : wo.heap.size ≤ w3.heap.size := by
                    have h8 := hg3.size
                    have h9 := hb3.size
                    simp only [World.size_alloc] at h8
                    omega
                  go_wp2
                  go_roundw
                  case rel => exact ⟨i + 1, by omega, by go_num, by rw [hCol.out]; exact hO4, hT3, hz3⟩
                  case measure => simp [intOf]; omega
                · obtain rfl : i = 4 := by omega
                  have hcl : (colK k rows rs).length = 4 := by rw [colK, List.length_zipWith, HL.out, HL2.out]; rfl
                  have hcs : Shape 3 (colK k rows rs) := ⟨hcl, fun r hr => by
                    obtain ⟨j, hj, e⟩ := List.getElem_of_mem hr
                    rw [colK, List.length_zipWith] at hj
                    rw [← e]
                    simp only [colK, List.getElem_zipWith, List.length_set]
                    exact HRL.out _ (List.getElem_mem _)⟩
                  rw [List.take_of_length_le (by omega)] at hOi
                  obtain ⟨A7, c7, e7, hRm⟩ := hOi.read (bs := bs) (by omega)
                  rw [hcl] at e7 hRm
                  subst e7
                  obtain ⟨dv, hdv⟩ : ∃ x, x = (detI 3 (colK k rows rs)).1 := ⟨_, rfl⟩
                  obtain ⟨db, hdb⟩ : ∃ x, x = (detI 3 (colK k rows rs)).2 := ⟨_, rfl⟩
                  obtain ⟨ov, hov⟩ : ∃ x, (overI dv bt).getD ⟨0, 0, 0⟩ = x := ⟨_, rfl⟩
                  obtain ⟨on, hon⟩ : ∃ x, (overI dv bt).isNone = x := ⟨_, rfl⟩
                  have HDc : Hid (∀ W, RowsAt bs A7 4 c7 (colK k rows rs) W → SumEx W bs → Calls Tryz.prog 87 #[.pointer (some ⟨bs, 0, none⟩), .slice A7 4 c7] W fun e w' => e = .returned (frv dv) ∧ (∀ c, SumIs W bs c → SumIs w' bs (c || db)) ∧ BelX W.heap.size bs W w') := Lib.hid (fun W h1 h2 => by rw [hdv, hdb]; exact det3 A7 c7 bs _ W hcs h1 h2)
                  have hsx := sol_next (rows := rows) (rs := rs) (bot := bt) (k := k) hk4 hdv hdb hov hon
                  rw [← HXO.out, ← HBD.out] at hsx
                  have hxl : xo.length = 4 := by rw [HXO.out, List.length_append, sol_len, List.length_drop]; simp [zs4]; omega
                  obtain ⟨sk, hsk⟩ : ∃ sk, xo[k]? = some sk := ⟨_, List.getElem?_eq_getElem (by omega)⟩
                  have HXK := Lib.hid hsk
                  have HXL := Lib.hid hxl
                  have HSX := Lib.hid hsx
                  have HOV := Lib.hid hov
                  have HON := Lib.hid hon
                  clear hsx hxl hov hon hdv hdb hcs hcl hOi hsk
                  have i0 : (0 : Int) ≤ (k : Int) := by omega
                  have i1 : (k : Int) < 4 := by omega
                  go_upto_region 25 with fail
                  go_region_held3 (fun w' => w'.cell? ⟨bb, 0, none⟩ = some (.int .i64 bt.re) ∧ w'.cell? ⟨bb, 1, none⟩ = some (.int .i64 bt.im) ∧ w'.cell? ⟨bb, 2, none⟩ = some (.int .i64 bt.den)) ((refine FrG.three ?_; (repeat' (first | (with_reducible assumption) | (with_reducible exact TV.t (by assumption)) | (with_reducible apply FrG.alloc) | (with_reducible apply FrG.drewN) | (with_reducible apply FrG.drew) | ((with_reducible refine FrG.far ?_ ?_ _) <;> (first | omega | (simp; done) | (simp; omega) | skip)))))) (first | ((go_at_call 87; (with_reducible refine (HDc.out _ (RowsAt.belX hRm (by (repeat' (first | (with_reducible exact BelX.refl _ _ _) | (with_reducible refine BelX.alloc ?_ side_ _) | (with_reducible refine BelX.drewN ?_ _) | (with_reducible refine BelX.drew ?_))))) (SumEx.of (TV.s (w := w) (bb := bb) (bo := bo) (bot := bt) (xs := xo) (bad := bd) (by (repeat' (first | (with_reducible assumption) | (with_reducible apply TV.alloc) | (with_reducible apply TV.drewN) | (with_reducible apply TV.drew))))))).mono ?_); rintro e wd ⟨rfl, hu, hx⟩; have hTd : TV w bs bb bo bt xo (bd || db) wd := TV.belX (by (repeat' (first | (with_reducible assumption) | (with_reducible apply TV.alloc) | (with_reducible apply TV.drewN) | (with_reducible apply TV.drew)))) hx (hu _ (TV.s (w := w) (bb := bb) (bo := bo) (bot := bt) (xs := xo) (by (repeat' (first | (with_reducible assumption) | (with_reducible apply TV.alloc) | (with_reducible apply TV.drewN) | (with_reducible apply TV.drew)))))); clear hu hx)) | ((go_at_call 43; (with_reducible refine (x_over_m dv bt ov on bs _ (SumEx.of (TV.s (w := w) (bb := bb) (bo := bo) (bot := bt) (xs := xo) (bad := bd || db) (by (repeat' (first | (with_reducible assumption) | (with_reducible apply TV.alloc) | (with_reducible apply TV.drewN) | (with_reducible apply TV.drew)))))) (hG.below (TV.B (bs := bs) (bb := bb) (bo := bo) (bot := bt) (xs := xo) (bad := bd || db) (by (repeat' (first | (with_reducible assumption) | (with_reducible apply TV.alloc) | (with_reducible apply TV.drewN) | (with_reducible apply TV.drew)))))) HOV HON).mono ?_); rintro e w9 ⟨rfl, hu, hx⟩; have hT9 : TV w bs bb bo bt xo ((bd || db) || on) w9 := TV.belX (by (repeat' (first | (with_reducible assumption) | (with_reducible apply TV.alloc) | (with_reducible apply TV.drewN) | (with_reducible apply TV.drew)))) hx (hu _ (TV.s (w := w) (bb := bb) (bo := bo) (bot := bt) (xs := xo) (by (repeat' (first | (with_reducible assumption) | (with_reducible apply TV.alloc) | (with_reducible apply TV.drewN) | (with_reducible apply TV.drew)))))); obtain ⟨o0, o1, o2⟩ := hT9.o.c k _ HXK.out; have hof := hT9.o.f; have hol := hT9.o.l; clear hu hx)))
                  all_goals (
                    go_wp2
                    go_roundw
                    (case rel => exact ⟨k + 1, by omega, by go_num, by rw [HSX.out.1, HSX.out.2]; exact hT9.put (by have := HXL.out; omega) ov⟩)
                    (case measure => simp [intOf]; omega))
            · obtain rfl : k = 4 := by omega
              have hx4 : xo = (solIK rows rs bt 4).1 := by rw [HXO.out]; simp [zs4]
              have hxl : xo.length = 4 := by rw [hx4, sol_len]
              obtain ⟨x, y, z, u, rfl⟩ : ∃ x y z u, xo = [x, y, z, u] := by
                match xo, hxl with
                | [x, y, z, u], _ => exact ⟨x, y, z, u, rfl⟩
              have hv : R = arrV (if bd then none else some [x, y, z, u]) := by
                rw [HR.out]
                unfold solI
                rw [HREAL.out, HL.out, HL2.out, ← HB0.out, HBB.out, ← HBT.out, HZZ.out, ← HBD.out, ← hx4]
                rfl
              have HV := Lib.hid hv
              obtain ⟨o0, o1, o2, o3, o4, o5, o6, o7, o8, o9, o10, o11⟩ := hT.o.four
              clear hv hx4 hxl
              cases bd
              case false =>
                go_wp2_with (go_at_call 88; (with_reducible refine (got_arrT x y z u bs _ hT.s).mono ?_); rintro e w5 ⟨rfl, hb⟩; refine Hid.out ?_)
                refine Lib.hid ?_
                have hr5 := hT.r.below hb
                have hB5 : Below w.heap.size w w5 := bstep hT.B hb hT.B.size
                have hlr := hr5.l
                obtain ⟨z0, z1, z2, z3, z4, z5, z6, z7, z8, z9, z10, z11⟩ := hr5.z
                have hzf := hr5.f
                clear hb o0 o1 o2 o3 o4 o5 o6 o7 o8 o9 o10 o11
                go_wp2
                exact bodyPost_ret (v := .tuple #[.agg #[.int .i64 x.re, .int .i64 x.im, .int .i64 x.den, .int .i64 y.re, .int .i64 y.im, .int .i64 y.den, .int .i64 z.re, .int .i64 z.im, .int .i64 z.den, .int .i64 u.re, .int .i64 u.im, .int .i64 u.den], .bool true]) (by simp [results, Tryz.results55, go_sem, *]) rfl ⟨by rw [HV.out]; rfl, by exact below_⟩
              case true =>
                go_wp2_with (go_at_call 88; (with_reducible refine (got_arrF x y z u bs _ hT.s).mono ?_); rintro e w5 ⟨rfl, hb⟩; refine Hid.out ?_)
                refine Lib.hid ?_
                have hr5 := hT.r.below hb
                have hB5 : Below w.heap.size w w5 := bstep hT.B hb hT.B.size
                have hlr := hr5.l
                obtain ⟨z0, z1, z2, z3, z4, z5, z6, z7, z8, z9, z10, z11⟩ := hr5.z
                have hzf := hr5.f
                clear hb o0 o1 o2 o3 o4 o5 o6 o7 o8 o9 o10 o11
                go_wp2
                exact bodyPost_ret (v := .tuple #[.agg #[.int .i64 0, .int .i64 0, .int .i64 0, .int .i64 0, .int .i64 0, .int .i64 0, .int .i64 0, .int .i64 0, .int .i64 0, .int .i64 0, .int .i64 0, .int .i64 0], .bool false]) (by simp [results, Tryz.results55, go_sem, *]) rfl ⟨by rw [HV.out]; rfl, by exact below_⟩
        · have hn4 : ((k : Int) == 4) = false := by simp; omega
          have hn4' : ((k : Int) != 4) = true := by simp; omega
          have he : solI rows rs = none := by
            unfold solI
            rw [if_neg]
            have := HL2.out
            simp only [Bool.and_eq_true, decide_eq_true_eq]
            omega
          subst hl4
          go_wp2
          exact bodyPost_ret (v := .tuple #[.agg #[.int .i64 0, .int .i64 0, .int .i64 0, .int .i64 0, .int .i64 0, .int .i64 0, .int .i64 0, .int .i64 0, .int .i64 0, .int .i64 0, .int .i64 0, .int .i64 0], .bool false]) (by simp [results, Tryz.results55, go_sem, *]) rfl ⟨by rw [HR.out, he]; rfl, by exact below_⟩
      · have hn4 : ((len : Int) == 4) = false := by simp; omega
        have hn4' : ((len : Int) != 4) = true := by simp; omega
        have he : solI rows rs = none := by
          unfold solI
          rw [if_neg]
          have := HL.out
          simp only [Bool.and_eq_true, decide_eq_true_eq]
          omega
        go_wp2
        exact bodyPost_ret (v := .tuple #[.agg #[.int .i64 0, .int .i64 0, .int .i64 0, .int .i64 0, .int .i64 0, .int .i64 0, .int .i64 0, .int .i64 0, .int .i64 0, .int .i64 0, .int .i64 0, .int .i64 0], .bool false]) (by simp [results, Tryz.results55, go_sem, *]) rfl ⟨by rw [HR.out, he]; rfl, by exact below_⟩
end Go.Proofs.YtodhbkinbcemnaaGreatDoor
