/-
  The walk of the reference's solve.
-/
import Derived.Test.YtodhbkinbcemnaaGreatDoorKf
import Derived.Test.YtodhbkinbcemnaaGreatDoorKi
import Derived.Test.YtodhbkinbcemnaaGreatDoorPw
namespace Go.Proofs.YtodhbkinbcemnaaGreatDoor
set_option linter.unusedSimpArgs false
set_option linter.unusedVariables false
open Go.RowKit
attribute [local go_sem ↓] Go.wp_at_zero Go.wp_at_succ
theorem sdet3 : DetD 3 := sdet_step 2 (by omega) (sdet_step 1 (by omega) (sdet_step 0 (by omega) sdet_zero))
/-- The two arrays that the call makes first. -/
structure TWj (w W : World) : Prop where
  r : ArrW W w.heap.size zs4
  n : ArrW W (w.heap.size + 1) zs4
  B : Below w.heap.size w W
theorem TWj.below {w W w1 : World} (h : TWj w W) (hb : Below W.heap.size W w1) : TWj w w1 := ⟨h.r.below hb, h.n.below hb, bstep h.B hb h.B.size⟩
theorem TWj.alloc {w W : World} (h : TWj w W) (o : Obj) : TWj w (W.alloc o) := h.below ((Below.refl _ _).alloc (Nat.le_refl _) o)
theorem TWj.belX {w W w1 : World} {bs : Nat} (h : TWj w W) (hlt : w.heap.size + 1 < bs) (hb : BelX W.heap.size bs W w1) : TWj w w1 :=
  ⟨h.r.step hb (by omega), h.n.step hb (by omega), (BelX.step (BelX.of h.B) hb h.B.size).below (by omega)⟩
/-- What the reference's solve holds in its rounds. -/
structure TX (w : World) (bs bb bo : Nat) (bot : Fr) (xs : List Fr) (W : World) : Prop where
  v : TWj w W
  s : OkIs W bs false
  t : FrG W bb bot
  o : ArrW W bo xs
  d : w.heap.size + 1 < bs ∧ bs < bb ∧ bb < bo
section
variable {w W w1 : World} {bs bb bo : Nat} {bot : Fr} {xs : List Fr}
theorem TX.r (h : TX w bs bb bo bot xs W) : ArrW W w.heap.size zs4 := h.v.r
theorem TX.n (h : TX w bs bb bo bot xs W) : ArrW W (w.heap.size + 1) zs4 := h.v.n
theorem TX.B (h : TX w bs bb bo bot xs W) : Below w.heap.size w W := h.v.B
theorem TX.below (h : TX w bs bb bo bot xs W) (hb : Below W.heap.size W w1) : TX w bs bb bo bot xs w1 := ⟨h.v.below hb, h.s.below hb h.s.lt, h.t.below hb, h.o.below hb, h.d⟩
theorem TX.alloc (h : TX w bs bb bo bot xs W) (o : Obj) : TX w bs bb bo bot xs (W.alloc o) := h.below ((Below.refl _ _).alloc (Nat.le_refl _) o)
theorem TX.put (h : TX w bs bb bo bot xs W) {i : Nat} (hi : i < xs.length) (s : Fr) : TX w bs bb bo bot (xs.set i s) (((W.setCell ⟨bo, i * 3, none⟩ (.int .i64 s.re)).setCell ⟨bo, i * 3 + 1, none⟩ (.int .i64 s.im)).setCell ⟨bo, i * 3 + 2, none⟩ (.int .i64 s.den)) := by
  obtain ⟨d0, d1, d2⟩ := h.d
  exact ⟨⟨((h.r.far (by simp; omega) _).far (by simp; omega) _).far (by simp; omega) _, ((h.n.far (by simp; omega) _).far (by simp; omega) _).far (by simp; omega) _, ((h.B.setCell (by simp; omega) _).setCell (by simp; omega) _).setCell (by simp; omega) _⟩, ((h.s.far (by simp; omega) _).far (by simp; omega) _).far (by simp; omega) _, ((h.t.far (by simp; omega) _).far (by simp; omega) _).far (by simp; omega) _, h.o.put hi s, h.d⟩
theorem TX.grown {row : Option Nat} (h : TX w bs bb bo bot xs W) (hg : W.grownBy w1 row) (hr : ∀ k, row = some k → bo < k) : TX w bs bb bo bot xs w1 := by
  obtain ⟨d0, d1, d2⟩ := h.d
  have hk : ∀ b, b ≤ bo → b < W.heap.size → w1.heap[b]? = W.heap[b]? := fun b h1 h2 => hg.block b h2 (fun e => by have := hr b e.symm; omega)
  have e := hk bb (by omega) h.t.lt
  have c := fun o => World.cell?_of_block (w := W) (w' := w1) (a := ⟨bb, o, none⟩) e
  exact ⟨⟨h.r.same (hk _ (by omega) h.r.l), h.n.same (hk _ (by omega) h.n.l), Below.grown h.B hg h.B.size (fun k e => by have := hr k e; omega)⟩, (hk bs (by omega) h.s.lt).trans h.s, ⟨(c 0).trans h.t.c0, (c 1).trans h.t.c1, (c 2).trans h.t.c2, fun o => (World.frozen?_of_block (w := W) (w' := w1) (a := ⟨bb, o, none⟩) e).trans (h.t.f o)⟩, h.o.same (hk _ (Nat.le_refl _) h.o.l), h.d⟩
end
theorem sreal_k (A : Option Addr) (len cap : Nat) (xs : List Fr) (b : Bool) (w : World) (h : Frs A len cap xs w) (e : Hid (xs.all realOk = b)) :
    Calls Tryz.prog 91 #[.slice A len cap] w fun e w' => e = .returned (.bool b) ∧ Below w.heap.size w w' := by
  rw [← e.out]; exact sreal_any A len cap xs w h
theorem sover_k (a b q : Fr) (ok : Bool) (w : World) (h : Hid (frb (overI a b) = .tuple #[frv q, .bool ok])) :
    Calls Tryz.prog 93 #[frv a, frv b] w fun e w' => e = .returned (.tuple #[frv q, .bool ok]) ∧ Below w.heap.size w w' := by
  rw [← h.out]; exact sover_any a b w
theorem solSK_none {rows : List (List Fr)} {rs : List Fr} {bot : Fr} {k : Nat} (h : solSK rows rs bot (k + 1) = none) (hk : k < 4) : solSK rows rs bot 4 = none := by
  have st : ∀ j, solSK rows rs bot j = none → solSK rows rs bot (j + 1) = none := fun j hj => by simp [solSK, hj]
  have h4 : k = 0 ∨ k = 1 ∨ k = 2 ∨ k = 3 := by omega
  rcases h4 with rfl | rfl | rfl | rfl
  · exact st _ (st _ (st _ h))
  · exact st _ (st _ h)
  · exact st _ h
  · exact h
theorem solSK_len {rows : List (List Fr)} {rs : List Fr} {bot : Fr} : ∀ {k : Nat} {out : List Fr}, solSK rows rs bot k = some out → out.length = k
  | 0, out, h => by simp [solSK] at h; subst h; rfl
  | k + 1, out, h => by
    simp only [solSK] at h
    cases ho : solSK rows rs bot k with
    | none => rw [ho] at h; cases h
    | some o =>
      rw [ho] at h
      simp only [Option.bind_some] at h
      split at h
      · cases h
      · cases hv : overI (detS 3 (colK k rows rs)).1 bot with
        | none => rw [hv] at h; cases h
        | some v =>
          rw [hv] at h
          simp only [Option.map_some, Option.some.injEq] at h
          rw [← h, List.length_append, solSK_len ho]
          rfl
theorem set_next {l : List Fr} {k : Nat} (hk : k < 4) (hl : l.length = k) (v : Fr) : (l ++ zs4.drop k).set k v = (l ++ [v]) ++ zs4.drop (k + 1) := by
  rw [List.set_append, if_neg (by omega), hl, Nat.sub_self]
  have h4 : k = 0 ∨ k = 1 ∨ k = 2 ∨ k = 3 := by omega
  rcases h4 with rfl | rfl | rfl | rfl <;> simp [zs4]
set_option maxRecDepth 100000 in
set_option maxHeartbeats 16000000 in
theorem ssolve_any (A : Option Addr) (cap : Nat) (rows : List (List Fr)) (A2 : Option Addr) (len2 cap2 : Nat) (rs : List Fr) (w : World) (hR0 : ∀ bs, w.heap.size ≤ bs → RowsAt bs A 4 cap rows w) (hrl : ∀ r ∈ rows, r.length = 4) (hF : Frs A2 len2 cap2 rs w) :
    Calls Tryz.prog 58 #[.slice A 4 cap, .slice A2 len2 cap2] w fun e w' => e = .returned (arrV (solS rows rs)) ∧ Below w.heap.size w w' := by
  have hl := hF.2.1
  have hm := hF.2.2.1
  have hcapA := (hR0 _ (Nat.le_refl _)).2.1
  have hcapB := (hR0 _ (Nat.le_refl _)).2.2.1
  have HL := Lib.hid (hR0 _ (Nat.le_refl _)).1
  have HL2 := Lib.hid hF.1
  have HR0 := Lib.hid hR0
  have HRL := Lib.hid hrl
  clear hR0 hrl
  obtain ⟨R, hR⟩ : ∃ R, R = arrV (solS rows rs) := ⟨_, rfl⟩
  rw [← hR]
  have HR := Lib.hid hR
  clear hR
  have hX : TWj w ((w.alloc (.cells #[.int .i64 0, .int .i64 0, .int .i64 0, .int .i64 0, .int .i64 0, .int .i64 0, .int .i64 0, .int .i64 0, .int .i64 0, .int .i64 0, .int .i64 0, .int .i64 0] 26)).alloc (.cells #[.int .i64 0, .int .i64 0, .int .i64 0, .int .i64 0, .int .i64 0, .int .i64 0, .int .i64 0, .int .i64 0, .int .i64 0, .int .i64 0, .int .i64 0, .int .i64 0] 26)) :=
    ⟨(ArrW.zero w _).alloc _, (by simpa using ArrW.zero (w.alloc (.cells #[.int .i64 0, .int .i64 0, .int .i64 0, .int .i64 0, .int .i64 0, .int .i64 0, .int .i64 0, .int .i64 0, .int .i64 0, .int .i64 0, .int .i64 0, .int .i64 0] 26)) 26), by exact below_⟩
  by_cases h4 : len2 = 4
  case neg =>
    have hn4 : ((len2 : Int) == 4) = false := by simp; omega
    have hn4' : ((len2 : Int) != 4) = true := by simp; omega
    have he : solS rows rs = none := by
      unfold solS
      rw [if_neg]
      have := HL2.out
      simp only [Bool.and_eq_true, decide_eq_true_eq]
      omega
    obtain ⟨z0, z1, z2, z3, z4, z5, z6, z7, z8, z9, z10, z11⟩ := hX.r.z
    have hzf := hX.r.f
    obtain ⟨n0, n1, n2, n3, n4, n5, n6, n7, n8, n9, n10, n11⟩ := hX.n.z
    go_enter Tryz.func58, Tryz.ntmps58
    go_wp2
    exact bodyPost_ret (v := .tuple #[.agg #[.int .i64 0, .int .i64 0, .int .i64 0, .int .i64 0, .int .i64 0, .int .i64 0, .int .i64 0, .int .i64 0, .int .i64 0, .int .i64 0, .int .i64 0, .int .i64 0], .bool false]) (by simp [results, Tryz.results58, go_sem, *]) rfl ⟨by rw [HR.out, he]; rfl, by exact below_⟩
  subst h4
  cases hr : rs.all realOk
  case false =>
    have he : solS rows rs = none := by
      unfold solS
      rw [hr]
      simp
    have HRR := Lib.hid hr
    go_enter Tryz.func58, Tryz.ntmps58
    go_wp2_with (go_at_call 91; (with_reducible refine (sreal_k A2 4 cap2 rs false _ (hF.below hX.B) HRR).mono ?_); rintro e w1 ⟨rfl, hb⟩; refine Hid.out ?_)
    refine Lib.hid ?_
    have hX := hX.below hb
    clear hb
    obtain ⟨z0, z1, z2, z3, z4, z5, z6, z7, z8, z9, z10, z11⟩ := hX.r.z
    have hzf := hX.r.f
    have hzl := hX.r.l
    obtain ⟨n0, n1, n2, n3, n4, n5, n6, n7, n8, n9, n10, n11⟩ := hX.n.z
    have hBF := hX.B
    go_wp2
    exact bodyPost_ret (v := .tuple #[.agg #[.int .i64 0, .int .i64 0, .int .i64 0, .int .i64 0, .int .i64 0, .int .i64 0, .int .i64 0, .int .i64 0, .int .i64 0, .int .i64 0, .int .i64 0, .int .i64 0], .bool false]) (by simp [results, Tryz.results58, go_sem, *]) rfl ⟨by rw [HR.out, he]; rfl, by exact below_⟩
  have HRR := Lib.hid hr
  clear hr
  go_enter Tryz.func58, Tryz.ntmps58
  go_wp2_with (go_at_call 91; (with_reducible refine (sreal_k A2 4 cap2 rs true _ (hF.below hX.B) HRR).mono ?_); rintro e w1 ⟨rfl, hb⟩; refine Hid.out ?_)
  refine Lib.hid ?_
  have hX := hX.below hb
  have hnl := hX.n.l
  clear hb
  have hshp : Shape 3 rows := ⟨HL.out, HRL.out⟩
  obtain ⟨bt, hbt⟩ : ∃ x, x = (detS 3 rows).1 := ⟨_, rfl⟩
  obtain ⟨b0, hb0⟩ : ∃ x, x = (detS 3 rows).2 := ⟨_, rfl⟩
  obtain ⟨bs, hbs⟩ : ∃ x, x = w1.heap.size := ⟨_, rfl⟩
  have hs0 : OkIs (w1.alloc (.cells #[.bool true] 69)) bs false := OkIs.new' (b := false) hbs
  have hRw : RowsAt bs A 4 cap rows (w1.alloc (.cells #[.bool true] 69)) := (HR0.out bs (by omega)).belX (BelX.of (hX.alloc _).B)
  have HD : Hid (∀ W, RowsAt bs A 4 cap rows W → OkEx W bs → Calls Tryz.prog 92 #[.pointer (some ⟨bs, 0, none⟩), .slice A 4 cap] W fun e w' => e = .returned (frv bt) ∧ (∀ c, OkIs W bs c → OkIs w' bs (c || b0)) ∧ BelX W.heap.size bs W w') := Lib.hid (fun W h1 h2 => by rw [hbt, hb0]; exact sdet3 A cap bs rows W hshp h1 h2)
  have HBT := Lib.hid hbt
  have HB0 := Lib.hid hb0
  clear hbt hb0
  go_wp2_with (go_at_call 92; (with_reducible refine (Calls.mono (by have := HD.out _ hRw (OkEx.of hs0); rw [hbs] at this; exact this) ?_)); rintro e w2 ⟨rfl, hu, hx⟩; refine Hid.out ?_)
  refine Lib.hid ?_
  rw [← hbs] at hx ⊢
  have hs1 := hu _ (hbs ▸ hs0)
  rw [← hbs, Bool.false_or] at hs1
  have hd0 : w.heap.size + 1 < bs := by omega
  have hX := (hX.alloc (.cells #[.bool true] 69)).belX hd0 hx
  have hl1 := hs1.lt
  clear hu hx hs0 hRw hbs hnl
  have hX := hX.alloc (.cells #[.int .i64 bt.re, .int .i64 bt.im, .int .i64 bt.den] 25)
  have hT1 := FrG.new w2 bt 25
  have hsa := hs1.alloc (.cells #[.int .i64 bt.re, .int .i64 bt.im, .int .i64 bt.den] 25)
  have hcs := hsa.cell
  obtain ⟨t0, t1, t2, tf⟩ := id hT1
  cases hbb : b0
  case true =>
    have he : solS rows rs = none := by
      unfold solS
      rw [← HB0.out, hbb]
      simp
    rw [hbb] at hcs
    simp only [Bool.not_true] at hcs
    obtain ⟨z0, z1, z2, z3, z4, z5, z6, z7, z8, z9, z10, z11⟩ := hX.r.z
    have hzf := hX.r.f
    have hzl := hX.r.l
    obtain ⟨n0, n1, n2, n3, n4, n5, n6, n7, n8, n9, n10, n11⟩ := hX.n.z
    have hBF := hX.B
    go_wp2
    exact bodyPost_ret (v := .tuple #[.agg #[.int .i64 0, .int .i64 0, .int .i64 0, .int .i64 0, .int .i64 0, .int .i64 0, .int .i64 0, .int .i64 0, .int .i64 0, .int .i64 0, .int .i64 0, .int .i64 0], .bool false]) (by simp [results, Tryz.results58, go_sem, *]) rfl ⟨by rw [HR.out, he]; rfl, by exact below_⟩
  rw [hbb] at hcs hsa
  simp only [Bool.not_false] at hcs
  cases hzz : (bt.re == 0)
  case true =>
    have he : solS rows rs = none := by
      unfold solS
      rw [← HBT.out, hzz]
      simp
    obtain ⟨z0, z1, z2, z3, z4, z5, z6, z7, z8, z9, z10, z11⟩ := hX.r.z
    have hzf := hX.r.f
    have hzl := hX.r.l
    obtain ⟨n0, n1, n2, n3, n4, n5, n6, n7, n8, n9, n10, n11⟩ := hX.n.z
    have hBF := hX.B
    go_wp2
    exact bodyPost_ret (v := .tuple #[.agg #[.int .i64 0, .int .i64 0, .int .i64 0, .int .i64 0, .int .i64 0, .int .i64 0, .int .i64 0, .int .i64 0, .int .i64 0, .int .i64 0, .int .i64 0, .int .i64 0], .bool false]) (by simp [results, Tryz.results58, go_sem, *]) rfl ⟨by rw [HR.out, he]; rfl, by exact below_⟩
  have HBB := Lib.hid hbb
  have HZZ := Lib.hid hzz
  have hT0 : TX w bs w2.heap.size (w2.heap.size + 1) bt ([] ++ zs4.drop 0) ((w2.alloc (.cells #[.int .i64 bt.re, .int .i64 bt.im, .int .i64 bt.den] 25)).alloc (.cells #[.int .i64 0, .int .i64 0, .int .i64 0, .int .i64 0, .int .i64 0, .int .i64 0, .int .i64 0, .int .i64 0, .int .i64 0, .int .i64 0, .int .i64 0, .int .i64 0] 26)) :=
    ⟨hX.alloc _, hsa.alloc _, hT1.alloc _, (by have := ArrW.zero (w2.alloc (.cells #[.int .i64 bt.re, .int .i64 bt.im, .int .i64 bt.den] 25)) 26; simpa using this), ⟨hd0, hl1, by omega⟩⟩
  obtain ⟨n0, n1, n2, n3, n4, n5, n6, n7, n8, n9, n10, n11⟩ := hX.n.z
  clear hbb hT1 hsa hs1
  go_wp2
  obtain ⟨bb, hbbs⟩ : ∃ x, x = w2.heap.size := ⟨_, rfl⟩
  obtain ⟨bo, hbo⟩ : ∃ x, x = w2.heap.size + 1 := ⟨_, rfl⟩
  rw [← hbo, ← hbbs] at hT0 ⊢
  clear t0 t1 t2 tf hcs hbbs hbo hl1 n0 n1 n2 n3 n4 n5 n6 n7 n8 n9 n10 n11 hX hzz
  go_loopw [10] (fun iv wr => ∃ (k : Nat) (out : List Fr), k ≤ 4 ∧ iv = .int .i64 k ∧ Hid (solSK rows rs bt k = some out) ∧ TX w bs bb bo bt (out ++ zs4.drop k) wr) (fun iv _ => 4 - (intOf iv).toNat)
  case atStart => exact ⟨0, [], by omega, rfl, Lib.hid rfl, hT0⟩
  case round =>
    clear hT0
    obtain ⟨k, out, hk, rfl, hO, hT⟩ := hrel
    rename World => wo
    have hol := solSK_len hO.out
    obtain ⟨xo, hxo⟩ : ∃ x, x = out ++ zs4.drop k := ⟨_, rfl⟩
    rw [← hxo] at hT
    have HXO := Lib.hid hxo
    have HOL := Lib.hid hol
    clear hxo hol
    have hz := hT.o.l
    have hdd := hT.d
    by_cases hk4 : k < 4
    · have hx2 : decide ((k : Int) < 4) = true := by simp; omega
      have hT1 := hT.alloc (.cells #[] 31)
      have hO0 := OwRs.made wo wo.heap.size (Nat.le_refl _)
      go_wp2
      go_loopw [11, 12] (fun v iv wr => ∃ i : Nat, i ≤ 4 ∧ iv = .int .i64 i ∧ OwRs wo.heap.size v ((colK k rows rs).take i) wr ∧ TX w bs bb bo bt xo wr ∧ wo.heap.size ≤ wr.heap.size) (fun _ iv _ => 4 - (intOf iv).toNat)
      case atStart => exact ⟨0, by omega, rfl, hO0, hT1, by simp⟩
      case round =>
        clear hT1 hO0
        obtain ⟨i, hi, rfl, hOi, hTi, hwi⟩ := hrel
        have hzi := hTi.o.l
        by_cases hi4 : i < 4
        · obtain ⟨bx, ox, A3, c3, r, rfl, hbx, -, hr, hcell, hFr, -⟩ := ((HR0.out bs (by omega)).belX (BelX.of hTi.B)).at (i := i) (by omega)
          have hrl4 : r.length = 4 := HRL.out r (List.mem_of_getElem? hr)
          rw [hrl4] at hcell hFr
          obtain ⟨b2, o2, -, rfl, -, -, -⟩ := hFr.at (Below.refl _ _) (k := 0) (by omega)
          obtain ⟨b5, o5, f, rfl, -, hf, -⟩ := hF.at hTi.B (k := i) hi4
          have hCol := Lib.hid (col_get (k := k) hr hf)
          have hAll : ∀ W', Below wr.heap.size wr W' → ∃ bb off : Nat, some (⟨b2, o2, none⟩ : Addr) = some ⟨bb, off, none⟩ ∧ ∀ j z, r[j]? = some z → FAt W' bb (off + j * 3) z := by
            intro W' hW
            refine ⟨b2, o2, rfl, fun j z hj => ?_⟩
            obtain ⟨b', o', f', e, -, hf', hat⟩ := (hFr.below hW).at (Below.refl _ _) (k := j) (by have := (List.getElem?_eq_some_iff.1 hj).1; omega)
            simp only [Option.some.injEq, Addr.mk.injEq, and_true] at e
            obtain ⟨rfl, rfl⟩ := e
            rw [hj] at hf'
            obtain rfl := Option.some.inj hf'
            exact hat
          have hRd : ∀ W', Below w.heap.size w W' → FAt W' b5 (o5 + i * 3) f := by
            intro W' hW
            obtain ⟨b', o', f', e, -, hf', hat⟩ := hF.at hW (k := i) hi4
            simp only [Option.some.injEq, Addr.mk.injEq, and_true] at e
            obtain ⟨rfl, rfl⟩ := e
            rw [hf] at hf'
            obtain rfl := Option.some.inj hf'
            exact hat
          obtain ⟨x0, hkx⟩ : ∃ x0, r[k]? = some x0 := ⟨_, List.getElem?_eq_getElem (by omega)⟩
          have HKX := Lib.hid hkx
          have HRL4 := Lib.hid hrl4
          have HAll := Lib.hid hAll
          have HRd := Lib.hid hRd
          have hml : ((colK k rows rs).take i).length + 1 < 4000000 := by rw [List.length_take]; omega
          clear hr hf hFr hAll hRd hkx hrl4
          have hbz : Below wr.heap.size wr (wr.alloc (.cells #[] 25)) := (Below.refl _ _).alloc (Nat.le_refl _) _
          go_wp2_with (at_builtin; refine wpList_appF rfl (.tmp 53) (.tmp 57) rfl wr.heap.size _ [] _ (by rfl) (OwF.made wr wr.heap.size (Nat.le_refl _)) (some ⟨b2, o2, none⟩) 4 c3 r (by rfl) HRL4.out (HAll.out _ hbz) (by simp) hbz.size ?_; intro v1 w2 hO1 hg1 hat1; refine Hid.out ?_)
          refine Lib.hid ?_
          have hO2 : OwF wr.heap.size v1 r w2 := hO1
          have hb2 : Below wr.heap.size wr w2 := Below.grown hbz hg1 hbz.size (fun kk e => by simp [Value.ownBlock] at e; omega)
          obtain ⟨g, cp, e1, hgb, hgl, hat, hfz⟩ := hO2.at k x0 HKX.out
          rw [HRL4.out] at e1
          subst e1
          obtain ⟨q0, q1, q2⟩ := hat
          obtain ⟨p0, p1, p2⟩ := hfz
          have hTw := hTi.below hb2
          obtain ⟨f0, f1, f2⟩ := HRd.out w2 hTw.B
          have i0 : (0 : Int) ≤ (k : Int) := by omega
          have i1 : (k : Int) < 4 := by omega
          have i2 : (0 : Int) ≤ (i : Int) := by omega
          have i3 : (i : Int) < 4 := by omega
          clear hO1 hg1 hat1 hbz hTw
          go_upto_region 18 with fail
          obtain ⟨W2, hW2⟩ : ∃ W, W = (((w2.setCell ⟨g, k * 3, none⟩ (.int .i64 f.re)).setCell ⟨g, k * 3 + 1, none⟩ (.int .i64 f.im)).setCell ⟨g, k * 3 + 2, none⟩ (.int .i64 f.den)) := ⟨_, rfl⟩
          have hO3 : OwF wr.heap.size (.slice (some ⟨g, 0, none⟩) 4 cp) (r.set k f) W2 := by rw [hW2]; exact hO2.put rfl k (by rw [HRL4.out]; omega) f
          have hb3 : Below wr.heap.size wr W2 := by rw [hW2]; exact ((hb2.setCell hgb _).setCell hgb _).setCell hgb _
          rw [← hW2]
          clear hW2 q0 q1 q2 p0 p1 p2 f0 f1 f2 hO2 hb2 hgl
          go_wp2_with (at_builtin; refine wpList_appR rfl (.tmp 66) (.tmp 68) rfl wo.heap.size _ ((colK k rows rs).take i) _ (by rfl) ((OwRs.below (B := 0) hOi hb3).alloc _) W2.heap.size 1 (by rfl) wr.heap.size (.slice (some ⟨g, 0, none⟩) 4 cp) (r.set k f) (hO3.alloc _) (fun kk e => (hOi.lt kk e).2) hwi (World.cell?_alloc_at _ _ _ _ rfl) hml (Nat.le_trans hwi (Nat.le_trans hb3.size (by simp))) ?_; intro v3 w3 hO4 hg3; refine Hid.out ?_)
          refine Lib.hid ?_
          have hT3 : TX w bs bb bo bt xo w3 := TX.grown ((hTi.below hb3).alloc _) hg3 (fun kk e => Nat.lt_of_lt_of_le hz (hOi.lt kk e).1)
          have hz3 : wo.heap.size ≤ w3.heap.size := by
            have h8 := hg3.size
            have h9 := hb3.size
            simp only [World.size_alloc] at h8
            omega
          go_wp2
          go_roundw
          case rel => exact ⟨i + 1, by omega, by go_num, by rw [hCol.out]; exact hO4, hT3, hz3⟩
          case measure => simp [intOf]; omega
        · obtain rfl : i = 4 := by omega
          have hcl : (colK k rows rs).length = 4 := by rw [colK, List.length_zipWith, HL.out, HL2.out]; rfl
          have hcs : Shape 3 (colK k rows rs) := ⟨hcl, fun r hr => by
            obtain ⟨j, hj, e⟩ := List.getElem_of_mem hr
            rw [colK, List.length_zipWith] at hj
            rw [← e]
            simp only [colK, List.getElem_zipWith, List.length_set]
            exact HRL.out _ (List.getElem_mem _)⟩
          rw [List.take_of_length_le (by omega)] at hOi
          obtain ⟨A7, c7, e7, hRm⟩ := hOi.read (bs := bs) (by omega)
          rw [hcl] at e7 hRm
          subst e7
          obtain ⟨dv, hdv⟩ : ∃ x, x = (detS 3 (colK k rows rs)).1 := ⟨_, rfl⟩
          obtain ⟨db, hdb⟩ : ∃ x, x = (detS 3 (colK k rows rs)).2 := ⟨_, rfl⟩
          have HDc : Hid (∀ W, RowsAt bs A7 4 c7 (colK k rows rs) W → OkEx W bs → Calls Tryz.prog 92 #[.pointer (some ⟨bs, 0, none⟩), .slice A7 4 c7] W fun e w' => e = .returned (frv dv) ∧ (∀ c, OkIs W bs c → OkIs w' bs (c || db)) ∧ BelX W.heap.size bs W w') := Lib.hid (fun W h1 h2 => by rw [hdv, hdb]; exact sdet3 A7 c7 bs _ W hcs h1 h2)
          have hnx : solSK rows rs bt (k + 1) = if db then none else (overI dv bt).map fun o => out ++ [o] := by
            rw [hdv, hdb]
            simp only [solSK, hO.out, Option.bind_some]
          have HNX := Lib.hid hnx
          clear hnx hdv hdb hcs hcl hOi
          go_wp2_with (go_at_call 92; (with_reducible refine (HDc.out _ hRm (OkEx.of hTi.s)).mono ?_); rintro e w5 ⟨rfl, hu, hx⟩; refine Hid.out ?_)
          refine Lib.hid ?_
          have hs5 := (hu _ hTi.s).alloc (.cells #[.int .i64 dv.re, .int .i64 dv.im, .int .i64 dv.den] 25)
          rw [Bool.false_or] at hs5
          have hV5 := (hTi.v.belX (by omega) hx).alloc (.cells #[.int .i64 dv.re, .int .i64 dv.im, .int .i64 dv.den] 25)
          have ht5 := (hTi.t.step hx hTi.t.lt (by omega)).alloc (.cells #[.int .i64 dv.re, .int .i64 dv.im, .int .i64 dv.den] 25)
          have ho5 := (hTi.o.step hx (by omega)).alloc (.cells #[.int .i64 dv.re, .int .i64 dv.im, .int .i64 dv.den] 25)
          have hd5 := FrG.new w5 dv 25
          have hc5 := hs5.cell
          have hl5 := hs5.lt
          clear hu hx hRm
          cases hdb : db
          case true =>
            have he : solS rows rs = none := by
              have h1 := HNX.out
              rw [hdb] at h1
              have h2 := solSK_none (k := k) (by simpa using h1) hk4
              unfold solS
              rw [← HBT.out, h2]
              simp
            rw [hdb] at hc5
            simp only [Bool.not_true] at hc5
            obtain ⟨z0, z1, z2, z3, z4, z5, z6, z7, z8, z9, z10, z11⟩ := hV5.r.z
            have hzf := hV5.r.f
            have hzl := hV5.r.l
            obtain ⟨n0, n1, n2, n3, n4, n5, n6, n7, n8, n9, n10, n11⟩ := hV5.n.z
            have hBF := hV5.B
            go_wp2
            exact bodyPost_ret (v := .tuple #[.agg #[.int .i64 0, .int .i64 0, .int .i64 0, .int .i64 0, .int .i64 0, .int .i64 0, .int .i64 0, .int .i64 0, .int .i64 0, .int .i64 0, .int .i64 0, .int .i64 0], .bool false]) (by simp [results, Tryz.results58, go_sem, *]) rfl ⟨by rw [HR.out, he]; rfl, by exact below_⟩
          rw [hdb] at hc5 hs5
          simp only [Bool.not_false] at hc5
          have hT5 : TX w bs bb bo bt xo (w5.alloc (.cells #[.int .i64 dv.re, .int .i64 dv.im, .int .i64 dv.den] 25)) := ⟨hV5, hs5, ht5, ho5, hdd⟩
          obtain ⟨ov, hov⟩ : ∃ x, (overI dv bt).getD ⟨0, 0, 0⟩ = x := ⟨_, rfl⟩
          obtain ⟨on, hon⟩ : ∃ x, (overI dv bt).isSome = x := ⟨_, rfl⟩
          have HQ := Lib.hid (show frb (overI dv bt) = .tuple #[frv ov, .bool on] by
            show Value.tuple #[frv ((overI dv bt).getD ⟨0, 0, 0⟩), .bool (overI dv bt).isSome] = _
            rw [hov, hon])
          have HOV := Lib.hid hov
          have HON := Lib.hid hon
          obtain ⟨d0, d1, d2, df⟩ := hd5
          obtain ⟨t0, t1, t2, tf⟩ := ht5
          clear hov hon hV5 ho5
          go_wp2_with (go_at_call 93; (with_reducible refine (sover_k dv bt ov on _ HQ).mono ?_); rintro e w6 ⟨rfl, hb⟩; refine Hid.out ?_)
          refine Lib.hid ?_
          have hT6 := (hT5.below hb).alloc (.cells #[.int .i64 ov.re, .int .i64 ov.im, .int .i64 ov.den] 25)
          have hx6 := FrG.new w6 ov 25
          clear hb d0 d1 d2 df t0 t1 t2 tf hT5 hs5 hc5 hl5
          obtain ⟨x0, x1, x2, xf⟩ := hx6
          cases hoo : on
          case false =>
            have he : solS rows rs = none := by
              have h1 := HNX.out
              rw [hdb] at h1
              have h3 : overI dv bt = none := by have := HON.out; rw [hoo] at this; simpa using this
              rw [h3] at h1
              have h2 := solSK_none (k := k) (by simpa using h1) hk4
              unfold solS
              rw [← HBT.out, h2]
              simp
            obtain ⟨z0, z1, z2, z3, z4, z5, z6, z7, z8, z9, z10, z11⟩ := hT6.r.z
            have hzf := hT6.r.f
            have hzl := hT6.r.l
            obtain ⟨n0, n1, n2, n3, n4, n5, n6, n7, n8, n9, n10, n11⟩ := hT6.n.z
            have hBF := hT6.B
            go_wp2
            exact bodyPost_ret (v := .tuple #[.agg #[.int .i64 0, .int .i64 0, .int .i64 0, .int .i64 0, .int .i64 0, .int .i64 0, .int .i64 0, .int .i64 0, .int .i64 0, .int .i64 0, .int .i64 0, .int .i64 0], .bool false]) (by simp [results, Tryz.results58, go_sem, *]) rfl ⟨by rw [HR.out, he]; rfl, by exact below_⟩
          have hnx2 : solSK rows rs bt (k + 1) = some (out ++ [ov]) := by
            have h1 := HNX.out
            rw [hdb] at h1
            have h3 := HON.out
            have h4 := HOV.out
            rw [hoo] at h3
            cases hv : overI dv bt with
            | none => rw [hv] at h3; cases h3
            | some y => rw [hv] at h1 h4; simp at h4; subst h4; simpa using h1
          have hxl : xo.length = 4 := by rw [HXO.out, List.length_append, HOL.out, List.length_drop]; simp [zs4]; omega
          have hst := set_next (l := out) hk4 HOL.out ov
          rw [← HXO.out] at hst
          obtain ⟨sk, hsk⟩ : ∃ sk, xo[k]? = some sk := ⟨_, List.getElem?_eq_getElem (by omega)⟩
          obtain ⟨o0, o1, o2⟩ := hT6.o.c k sk hsk
          have hof := hT6.o.f
          have hol6 := hT6.o.l
          have HNX2 := Lib.hid hnx2
          have HST := Lib.hid hst
          have HXL := Lib.hid hxl
          have i0 : (0 : Int) ≤ (k : Int) := by omega
          have i1 : (k : Int) < 4 := by omega
          clear hnx2 hst hxl hsk
          go_wp2
          go_roundw
          case rel => exact ⟨k + 1, out ++ [ov], by omega, by go_num, HNX2, by rw [← HST.out]; exact hT6.put (by rw [HXL.out]; omega) ov⟩
          case measure => simp [intOf]; omega
    · obtain rfl : k = 4 := by omega
      have hx4 : xo = out := by rw [HXO.out]; simp [zs4]
      obtain ⟨x, y, z, u, hq⟩ : ∃ x y z u, xo = [x, y, z, u] := by
        have hxl : xo.length = 4 := by rw [hx4, HOL.out]
        match xo, hxl with
        | [x, y, z, u], _ => exact ⟨x, y, z, u, rfl⟩
      subst hq
      have hv : R = arrV (some [x, y, z, u]) := by
        rw [HR.out]
        unfold solS
        rw [HRR.out, HL2.out, ← HB0.out, HBB.out, ← HBT.out, HZZ.out, hO.out, ← hx4]
        rfl
      have HV := Lib.hid hv
      obtain ⟨o0, o1, o2, o3, o4, o5, o6, o7, o8, o9, o10, o11⟩ := hT.o.four
      obtain ⟨z0, z1, z2, z3, z4, z5, z6, z7, z8, z9, z10, z11⟩ := hT.r.z
      have hzf := hT.r.f
      have hzl := hT.r.l
      have hBF := hT.B
      clear hv hx4
      go_wp2
      exact bodyPost_ret (v := .tuple #[.agg #[.int .i64 x.re, .int .i64 x.im, .int .i64 x.den, .int .i64 y.re, .int .i64 y.im, .int .i64 y.den, .int .i64 z.re, .int .i64 z.im, .int .i64 z.den, .int .i64 u.re, .int .i64 u.im, .int .i64 u.den], .bool true]) (by simp [results, Tryz.results58, go_sem, *]) rfl ⟨by rw [HV.out]; rfl, by exact below_⟩
end Go.Proofs.YtodhbkinbcemnaaGreatDoor
