/-
  The walk of the program's determinant: one row more.
-/
import Derived.Test.YtodhbkinbcemnaaGreatDoorPd
namespace Go.Proofs.YtodhbkinbcemnaaGreatDoor
set_option linter.unusedSimpArgs false
set_option linter.unusedVariables false
open Go.RowKit
attribute [local go_sem ↓] Go.wp_at_zero Go.wp_at_succ
theorem TK.sub {w W : World} {bs : Nat} {b c : Bool} {acc : Fr} (h : TK w bs b acc W) (e : b = c) : TK w bs c acc W := e ▸ h
theorem TK.grown {w W w1 : World} {bs : Nat} {bad : Bool} {acc : Fr} {row : Option Nat} (h : TK w bs bad acc W) (hlt : bs < w.heap.size) (hg : W.grownBy w1 row) (hr : ∀ k, row = some k → w.heap.size + 1 < k) : TK w bs bad acc w1 := by
  have hk : ∀ b, b ≤ w.heap.size + 1 → b < W.heap.size → w1.heap[b]? = W.heap[b]? := fun b h1 h2 => hg.block b h2 (fun e => by have := hr b e.symm; omega)
  have key : ∀ b m, b ≤ w.heap.size + 1 → FrG W b m → FrG w1 b m := fun b m hb hm => by
    have e := hk b hb hm.lt
    have c := fun o => World.cell?_of_block (w := W) (a := ⟨b, o, none⟩) e
    exact ⟨(c 0).trans hm.c0, (c 1).trans hm.c1, (c 2).trans hm.c2, fun o => (World.frozen?_of_block (w := W) e).trans (hm.f o)⟩
  refine ⟨key _ _ (by omega) h.r, key _ _ (by omega) h.a, (hk bs (by omega) h.s.lt).trans h.s, ?_⟩
  exact ⟨hg.os.trans h.X.os, hg.tape.trans h.X.tape, hg.output.trans h.X.output, Nat.le_trans h.X.size hg.size, fun k h1 h2 => (hk k (by omega) (Nat.lt_of_lt_of_le h1 h.X.size)).trans (h.X.block k h1 h2)⟩
theorem x_times_m (a b p : Fr) (pn : Bool) (bs : Nat) (w : World) (hs : SumEx w bs) (hp : Hid ((timesI a b).getD ⟨0, 0, 0⟩ = p)) (hn : Hid ((timesI a b).isNone = pn)) :
    Calls Tryz.prog 37 #[.pointer (some ⟨bs, 0, none⟩), frv a, frv b] w fun e w' => e = .returned (frv p) ∧ (∀ c, SumIs w bs c → SumIs w' bs (c || pn)) ∧ BelX w.heap.size bs w w' := by
  rw [← hp.out, ← hn.out]; exact x_times a b bs w hs
/-- A column's step, by its parts. -/
theorem stepI_eq {D : List (List Fr) → Fr × Bool} {rows : List (List Fr)} {s : Fr × Bool} {k : Nat} {f dv p : Fr} {db pn : Bool} (he : entryK rows k = f) (hd : D (minorK k rows) = (dv, db)) (hp : (timesI f dv).getD ⟨0, 0, 0⟩ = p) (hn : (timesI f dv).isNone = pn) :
    (k = 0 → stepI D rows s k = (p, (s.2 || db) || pn)) ∧ (k % 2 = 1 → stepI D rows s k = ((lessI s.1 p).getD ⟨0, 0, 0⟩, ((s.2 || db) || pn) || (lessI s.1 p).isNone)) ∧ (0 < k → k % 2 = 0 → stepI D rows s k = ((addI s.1 p).getD ⟨0, 0, 0⟩, ((s.2 || db) || pn) || (addI s.1 p).isNone)) := by
  unfold stepI zK
  simp only [he, hd, hp, hn]
  refine ⟨fun h => by rw [if_pos h], fun h => by rw [if_neg (by omega), if_pos h], fun h1 h2 => by rw [if_neg (by omega), if_neg (by omega)]⟩
theorem take_get {r : List Fr} {k i : Nat} {z : Fr} (h : (r.take k)[i]? = some z) : r[i]? = some z := by
  rw [List.getElem?_take] at h
  split at h
  · exact h
  · cases h
set_option maxRecDepth 100000 in
set_option maxHeartbeats 16000000 in
theorem det_step (n : Nat) (hn : n ≤ 2) (IH : DetC n) : DetC (n + 1) := by
  intro A cap bs rows w hsh hR hS
  obtain ⟨c0, hc0⟩ := hS
  have hlt := hc0.lt
  suffices Calls Tryz.prog 87 #[.pointer (some ⟨bs, 0, none⟩), .slice A (n + 2) cap] w fun e w' => e = .returned (frv (detI (n + 1) rows).1) ∧ SumIs w' bs (c0 || (detI (n + 1) rows).2) ∧ BelX w.heap.size bs w w' from
    this.mono fun _ _ ⟨h1, h2, h3⟩ => ⟨h1, fun c hc => by rw [← hc0.uniq hc]; exact h2, h3⟩
  obtain ⟨bb, oo, A1, c1, r0, rfl, hbb, hne, hr0, hcell0, hF0, hn0⟩ := hR.at (i := 0) (by omega)
  have hl0 : r0.length = n + 2 := hsh.2 r0 (List.mem_of_getElem? hr0)
  rw [hl0] at hcell0 hF0
  rw [Nat.add_zero] at hcell0
  obtain ⟨b1, o1, -, rfl, hb1l, -, -⟩ := hF0.at (Below.refl _ _) (k := 0) (by omega)
  have hb1n := hn0 b1 o1 rfl
  have hcap := hR.2.1
  have hcap2 := hR.2.2.1
  have hEnt : ∀ k f, r0[k]? = some f → entryK rows k = f := by
    intro k f hf
    have h1 : rows.headD [] = r0 := by cases rows <;> simp at hr0 ⊢; exact hr0
    rw [entryK, h1, List.getD, hf]
    rfl
  have hC4 : ∀ k f, r0[k]? = some f → ∀ W', BelX w.heap.size bs w W' → W'.cell? ⟨bb, oo, none⟩ = some (.slice (some ⟨b1, o1, none⟩) (n + 2) c1) ∧ W'.cell? ⟨b1, o1 + k * 3, none⟩ = some (.int .i64 f.re) ∧ W'.cell? ⟨b1, o1 + k * 3 + 1, none⟩ = some (.int .i64 f.im) ∧ W'.cell? ⟨b1, o1 + k * 3 + 2, none⟩ = some (.int .i64 f.den) := by
    intro k f hf W' hW
    obtain ⟨b', o', f', e, -, hf', hat⟩ := (hF0.belX hW hn0).at (Below.refl _ _) (k := k) (by have := (List.getElem?_eq_some_iff.1 hf).1; omega)
    simp only [Option.some.injEq, Addr.mk.injEq, and_true] at e
    obtain ⟨rfl, rfl⟩ := e
    rw [hf] at hf'
    obtain rfl := Option.some.inj hf'
    exact ⟨(World.cell?_of_block (hW.block bb hbb hne)).trans hcell0, hat.1, hat.2.1, hat.2.2⟩
  have HE := Lib.hid hEnt
  have HC4 := Lib.hid hC4
  have HSH := Lib.hid hsh
  have HL0 := Lib.hid hl0
  have hT0 : TK w bs (c0 || (detIK (detI n) rows 0).2) (detIK (detI n) rows 0).1 ((w.alloc (.cells #[.int .i64 0, .int .i64 0, .int .i64 0] 25)).alloc (.cells #[.int .i64 0, .int .i64 0, .int .i64 0] 25)) :=
    ⟨(FrG.new w ⟨0, 0, 0⟩ _).alloc _, (by show FrG _ (w.heap.size + 1) ⟨0, 0, 0⟩; simpa using FrG.new (w.alloc (.cells #[.int .i64 0, .int .i64 0, .int .i64 0] 25)) ⟨0, 0, 0⟩ 25), by show SumIs _ bs (c0 || false); rw [Bool.or_false]; exact (hc0.alloc _).alloc _, by exact belx_⟩
  clear hEnt hC4 hl0 hr0 hcell0 hF0 hn0
  obtain ⟨R1, hR1⟩ : ∃ x, x = (detI (n + 1) rows).1 := ⟨_, rfl⟩
  obtain ⟨R2, hR2⟩ : ∃ x, x = (c0 || (detI (n + 1) rows).2) := ⟨_, rfl⟩
  rw [← hR1, ← hR2]
  have HR1 := Lib.hid hR1
  have HR2 := Lib.hid hR2
  clear hR1 hR2
  have hx1 : ((n : Int) + 2 == 1) = false := by simp; omega
  go_enter Tryz.func87, Tryz.ntmps87
  go_wp2
  go_loopw [22] (fun i wr => ∃ k : Nat, k ≤ n + 2 ∧ i = .int .i64 k ∧ TK w bs (c0 || (detIK (detI n) rows k).2) (detIK (detI n) rows k).1 wr) (fun i _ => n + 2 - (intOf i).toNat)
  case atStart => exact ⟨0, by omega, rfl, hT0⟩
  case round =>
    clear hT0
    obtain ⟨k, hk, rfl, hT⟩ := hrel
    rename World => wo
    obtain ⟨av, hav⟩ : ∃ x, x = (detIK (detI n) rows k).1 := ⟨_, rfl⟩
    obtain ⟨bd, hbd⟩ : ∃ x, x = (c0 || (detIK (detI n) rows k).2) := ⟨_, rfl⟩
    rw [← hav, ← hbd] at hT
    have HAV := Lib.hid hav
    have HBD := Lib.hid hbd
    clear hav hbd
    have hz := hT.a.lt
    by_cases hk2 : k < n + 2
    · have hx2 : decide ((k : Int) < (n : Int) + 2) = true := by simp; omega
      have hT1 := hT.alloc (.cells #[] 31)
      have hO0 := OwRs.made wo wo.heap.size (Nat.le_refl _)
      go_wp2
      go_loopw [7, 29] (fun v jv wr => ∃ j : Nat, j ≤ n + 1 ∧ jv = .int .i64 j ∧ OwRs wo.heap.size v ((rows.tail.take j).map (cutK k)) wr ∧ TK w bs bd av wr ∧ wo.heap.size ≤ wr.heap.size) (fun _ jv _ => n + 1 - (intOf jv).toNat)
      case atStart => exact ⟨0, by omega, rfl, hO0, hT1, by simp⟩
      case round =>
        clear hT1 hO0
        obtain ⟨j, hj, rfl, hOi, hTi, hwi⟩ := hrel
        have hzi := hTi.a.lt
        by_cases hj2 : j < n + 1
        · obtain ⟨bb', oo', A2, c2, r, e0, -, -, hr, hcell, hF, -⟩ := (hR.belX hTi.X).at (i := j + 1) (by omega)
          simp only [Option.some.injEq, Addr.mk.injEq, and_true] at e0
          obtain ⟨rfl, rfl⟩ := e0
          have hrl : r.length = n + 2 := HSH.out.2 r (List.mem_of_getElem? hr)
          rw [hrl] at hcell hF
          obtain ⟨b2, o2, -, rfl, -, -, -⟩ := hF.at (Below.refl _ _) (k := 0) (by omega)
          have hc2 := hF.2.1
          have hc22 := hF.2.2.1
          have hcell2 : wr.cell? ⟨bb, oo + 1 + j, none⟩ = some (.slice (some ⟨b2, o2, none⟩) (n + 2) c2) := by rw [← hcell]; congr 2; omega
          have hall : ∀ W', Below wr.heap.size wr W' → ∀ i z, r[i]? = some z → FAt W' b2 (o2 + i * 3) z := by
            intro W' hW i z hz
            obtain ⟨b', o', f', e, -, hf', hat⟩ := (hF.below hW).at (Below.refl _ _) (k := i) (by have := (List.getElem?_eq_some_iff.1 hz).1; omega)
            simp only [Option.some.injEq, Addr.mk.injEq, and_true] at e
            obtain ⟨rfl, rfl⟩ := e
            rw [hz] at hf'
            obtain rfl := Option.some.inj hf'
            exact hat
          have hPre : ∀ W', Below wr.heap.size wr W' → ∀ i z, (r.take k)[i]? = some z → FAt W' b2 (o2 + i * 3) z := fun W' hW i z hz => hall W' hW i z (take_get hz)
          have hSuf : ∀ W', Below wr.heap.size wr W' → ∃ bb off : Nat, (if c2 = k + 1 then some (⟨b2, o2, none⟩ : Addr) else some ⟨b2, o2 + (k + 1) * 3, none⟩) = some ⟨bb, off, none⟩ ∧ ∀ i z, (r.drop (k + 1))[i]? = some z → FAt W' bb (off + i * 3) z := fun W' hW => by
            by_cases hck : c2 = k + 1
            · rw [if_pos hck]
              exact ⟨b2, o2, rfl, fun i z hz => by have := (List.getElem?_eq_some_iff.1 hz).1; rw [List.length_drop] at this; omega⟩
            · rw [if_neg hck]
              refine ⟨b2, _, rfl, fun i z hz => ?_⟩
              rw [List.getElem?_drop] at hz
              have := hall W' hW _ z hz
              rwa [show o2 + (k + 1 + i) * 3 = o2 + (k + 1) * 3 + i * 3 by omega] at this
          have hzl : (r.take k).length = k := by rw [List.length_take]; omega
          have hzd : (r.drop (k + 1)).length = n + 1 - k := by rw [List.length_drop]; omega
          have hml : ((rows.tail.take j).map (cutK k)).length = j := by rw [List.length_map, List.length_take, List.length_tail, HSH.out.1]; omega
          have HNX := Lib.hid (minor_next (k := k) hr)
          clear hF hcell hall hr
          have hcl : (cutK k r).length = n + 1 := by rw [cutK, List.length_append, hzl, hzd]; omega
          have HCL := Lib.hid hcl
          clear hcl
          obtain ⟨AD, hAD⟩ : ∃ AD, (if c2 = k + 1 then some (⟨b2, o2, none⟩ : Addr) else some ⟨b2, o2 + (k + 1) * 3, none⟩) = AD := ⟨_, rfl⟩
          rw [hAD] at hSuf
          have HPre := Lib.hid hPre
          have HSuf := Lib.hid hSuf
          have HZL := Lib.hid hzl
          have HZD := Lib.hid hzd
          have HML := Lib.hid hml
          have HRL := Lib.hid hrl
          clear hPre hSuf hzl hzd hml hrl
          go_upto_region 11 with fail
          have i0 : (0 : Int) ≤ (k : Int) := by omega
          have i1 : (k : Int) ≤ (c2 : Int) := by omega
          have i2 : (k : Int) ≤ (n : Int) + 2 := by omega
          have i3 : (k : Int) + 1 ≤ (n : Int) + 2 := by omega
          have i4 : (0 : Int) ≤ (k : Int) + 1 := by omega
          have i5 : ((k : Int) + 1).toNat = k + 1 := by omega
          have i6 : (n : Int) + 2 ≤ (c2 : Int) := by omega
          have i7 : IntKind.i64.wrap ((k : Int) + 1) = (k : Int) + 1 := IntWalk.i64_in _ (by omega)
          have hs0 := hTi.s
          have hsl : bs < wr.heap.size := by omega
          have hbz : Below wr.heap.size wr (wr.drew.alloc (.cells #[] 25)) := (Below.refl _ _).drew.alloc (Nat.le_refl _) _
          have hln1 : ([] : List Fr).length + k < 4000000 := by simp; omega
          have hln2 : ([] ++ r.take k).length + (n + 1 - k) < 4000000 := by simp; omega
          have hln3 : ((rows.tail.take j).map (cutK k)).length + 1 < 4000000 := by rw [HML.out]; omega
          go_region_held3 (fun w' => w'.cell? ⟨bs, 0, none⟩ = some (.bool bd)) ((refine SumIs.cell (b := bd) ?_; (repeat' (first | assumption | apply SumIs.alloc | apply SumIs.drewN | apply SumIs.drew)))) (first | ((refine step_of (by rfl) (wp_appF _ _ (by rfl) wr.heap.size (.slice (some ⟨wr.heap.size, 0, none⟩) 0 0) [] (wr.drew.alloc (.cells #[] 25)) (by rfl) (OwF.made wr.drew wr.heap.size (Nat.le_refl _)) (some ⟨b2, o2, none⟩) k c2 (r.take k) (by rfl) HZL.out ⟨b2, o2, rfl, HPre.out _ hbz⟩ hln1 hbz.size ?_); intro v1 w1 hO1 hg1 hat1; have hb1 : Below wr.heap.size wr w1 := Below.grown hbz hg1 hbz.size (fun kk e => by simp [Value.ownBlock] at e; omega); have hs1 := hTi.s.below hb1 hsl)) | ((refine step_of (by rfl) (wp_appF _ _ (by rfl) wr.heap.size v1 ([] ++ r.take k) w1 (by rfl) hO1 AD (n + 1 - k) (c2 - (k + 1)) (r.drop (k + 1)) (by rfl) HZD.out (HSuf.out w1 hb1) hln2 hb1.size ?_); intro v2 w2 hO2 hg2 hat2; have hO9 : OwF wr.heap.size v2 (cutK k r) w2 := hO2; clear hO2; obtain ⟨A9, c9, e9, -⟩ := hO9.frs; rw [HCL.out] at e9; subst e9; have hb2 : Below wr.heap.size wr w2 := Below.grown hb1 hg2 hb1.size (fun kk e => (hO1.lt kk e).1); have hs2 := hTi.s.below hb2 hsl)) | ((refine step_of (by rfl) (wp_appR _ _ (by rfl) wo.heap.size u7 ((rows.tail.take j).map (cutK k)) (w2.alloc (.cells #[.slice A9 (n + 1) c9] 31)) (by rfl) ((OwRs.below (B := 0) hOi hb2).alloc _) w2.heap.size 1 (by rfl) wr.heap.size (.slice A9 (n + 1) c9) (cutK k r) (hO9.alloc _) (fun kk e => (hOi.lt kk e).2) hwi (World.cell?_alloc_at _ _ _ _ rfl) hln3 (Nat.le_trans hwi (Nat.le_trans hb2.size (by simp))) ?_); intro v3 w3 hO3 hg3; have hT3 := TK.grown ((hTi.below hb2).alloc _) hlt hg3 (fun kk e => Nat.lt_of_lt_of_le hz (hOi.lt kk e).1); have hs3 := hT3.s)))
          have hz3 : wo.heap.size ≤ w3.heap.size := by
            have h8 := hg3.size
            have h9 := hb2.size
            simp only [World.size_alloc] at h8
            omega
          clear i7 i5 hAD
          go_wp2
          go_roundw
          case rel => exact ⟨j + 1, by omega, by go_num, by rw [HNX.out]; exact hO3, hT3, hz3⟩
          case measure => simp [intOf]; omega
        · obtain rfl : j = n + 1 := by omega
          have hm1 : (rows.tail.take (n + 1)).map (cutK k) = minorK k rows := by
            rw [List.take_of_length_le (by rw [List.length_tail, HSH.out.1]; omega)]
            rfl
          have hshm : Shape n (minorK k rows) := HSH.out.minor hk2
          rw [hm1] at hOi
          obtain ⟨A3, c3, e3, hRm⟩ := hOi.read (bs := bs) (by omega)
          rw [hshm.1] at e3 hRm
          subst e3
          obtain ⟨f, hf⟩ : ∃ f, r0[k]? = some f := ⟨_, List.getElem?_eq_getElem (by have := HL0.out; omega)⟩
          obtain ⟨dv, hdv⟩ : ∃ x, x = (detI n (minorK k rows)).1 := ⟨_, rfl⟩
          obtain ⟨db, hdb⟩ : ∃ x, x = (detI n (minorK k rows)).2 := ⟨_, rfl⟩
          obtain ⟨p, hp⟩ : ∃ x, (timesI f dv).getD ⟨0, 0, 0⟩ = x := ⟨_, rfl⟩
          obtain ⟨pn, hpn⟩ : ∃ x, (timesI f dv).isNone = x := ⟨_, rfl⟩
          have HIH : Hid (∀ W, RowsAt bs A3 (n + 1) c3 (minorK k rows) W → SumEx W bs → Calls Tryz.prog 87 #[.pointer (some ⟨bs, 0, none⟩), .slice A3 (n + 1) c3] W fun e w' => e = .returned (frv dv) ∧ (∀ c, SumIs W bs c → SumIs w' bs (c || db)) ∧ BelX W.heap.size bs W w') := Lib.hid (fun W h1 h2 => by rw [hdv, hdb]; exact IH A3 c3 bs _ W hshm h1 h2)
          have hse := stepI_eq (D := detI n) (s := (detIK (detI n) rows k)) (db := db) (HE.out k f hf) (by rw [hdv, hdb]) hp hpn
          have hsd : detIK (detI n) rows (k + 1) = stepI (detI n) rows (detIK (detI n) rows k) k := rfl
          rw [← hsd, ← HAV.out] at hse
          have HST0 := Lib.hid hse.1
          have HST1 := Lib.hid hse.2.1
          have HST2 := Lib.hid hse.2.2
          have HP := Lib.hid hp
          have HPN := Lib.hid hpn
          have hC5 := HC4.out k f hf
          clear hse hsd hp hpn hdv hdb hf hm1 hOi hshm
          have i0 : (0 : Int) ≤ (k : Int) := by omega
          have i1 : (k : Int) < (n : Int) + 2 := by omega
          have i2 : (0 : Int) < (n : Int) + 2 := by omega
          go_upto_region 13 with fail
          go_region_held3 (fun w' => w'.cell? ⟨bb, oo, none⟩ = some (.slice (some ⟨b1, o1, none⟩) (n + 2) c1) ∧ w'.cell? ⟨b1, o1 + k * 3, none⟩ = some (.int .i64 f.re) ∧ w'.cell? ⟨b1, o1 + k * 3 + 1, none⟩ = some (.int .i64 f.im) ∧ w'.cell? ⟨b1, o1 + k * 3 + 2, none⟩ = some (.int .i64 f.den)) ((refine hC5 _ ?_; (repeat' (first | (with_reducible assumption) | (with_reducible exact TK.X (by assumption)) | (with_reducible refine BelX.alloc ?_ side_ _) | (with_reducible refine BelX.drewN ?_ _) | (with_reducible refine BelX.drew ?_) | (with_reducible refine BelX.setCell ?_ side_ _))))) (first | ((go_at_call 87; (with_reducible refine (HIH.out _ (RowsAt.belX hRm (by (repeat' (first | (with_reducible exact BelX.refl _ _ _) | (with_reducible refine BelX.alloc ?_ side_ _) | (with_reducible refine BelX.drewN ?_ _) | (with_reducible refine BelX.drew ?_))))) (SumEx.of (TK.s (w := w) (acc := av) (bad := bd) (by (repeat' (first | (with_reducible assumption) | (with_reducible apply TK.alloc) | (with_reducible apply TK.drewN) | (with_reducible apply TK.drew))))))).mono ?_); rintro e wd ⟨rfl, hu, hx⟩; have hTd : TK w bs (bd || db) av wd := TK.belX (by (repeat' (first | (with_reducible assumption) | (with_reducible apply TK.alloc) | (with_reducible apply TK.drewN) | (with_reducible apply TK.drew)))) hlt hx (hu _ (TK.s (w := w) (acc := av) (by (repeat' (first | (with_reducible assumption) | (with_reducible apply TK.alloc) | (with_reducible apply TK.drewN) | (with_reducible apply TK.drew)))))); have hzd := hx.size; (try simp only [World.size_alloc, World.size_setCell, World.size_drew, World.heap_drewN] at hzd); (try (have hP : FrG wd (wr.heap.size) ⟨0, 0, 0⟩ := (by refine FrG.step (w := _) ?_ hx ?_ ?_; (repeat' (first | (with_reducible assumption) | (with_reducible exact FrG.new _ _ _) | (exact FrG.new _ ⟨0, 0, 0⟩ _) | (with_reducible apply FrG.alloc) | (with_reducible apply FrG.drewN) | (with_reducible apply FrG.drew))); first | done | (simp; omega) | omega | fail); have hPl : wr.heap.size < wd.heap.size := hP.lt; obtain ⟨hP0, hP1, hP2, hPf⟩ := id hP)); clear hu hx)) | ((go_at_call 37; (with_reducible refine (x_times_m f dv p pn bs _ (SumEx.of (TK.s (w := w) (acc := av) (bad := bd || db) (by (repeat' (first | (with_reducible assumption) | (with_reducible apply TK.alloc) | (with_reducible apply TK.drewN) | (with_reducible apply TK.drew)))))) HP HPN).mono ?_); rintro e w9 ⟨rfl, hu, hx⟩; have hT9 : TK w bs ((bd || db) || pn) av w9 := TK.belX (by (repeat' (first | (with_reducible assumption) | (with_reducible apply TK.alloc) | (with_reducible apply TK.drewN) | (with_reducible apply TK.drew)))) hlt hx (hu _ (TK.s (w := w) (acc := av) (by (repeat' (first | (with_reducible assumption) | (with_reducible apply TK.alloc) | (with_reducible apply TK.drewN) | (with_reducible apply TK.drew)))))); have hz9 := hx.size; (try simp only [World.size_alloc, World.size_setCell, World.size_drew, World.heap_drewN] at hz9); (try (have hP : FrG w9 (wr.heap.size) ⟨0, 0, 0⟩ := (by refine FrG.step (w := _) ?_ hx ?_ ?_; (repeat' (first | (with_reducible assumption) | (with_reducible exact FrG.new _ _ _) | (exact FrG.new _ ⟨0, 0, 0⟩ _) | (with_reducible apply FrG.alloc) | (with_reducible apply FrG.drewN) | (with_reducible apply FrG.drew))); first | done | (simp; omega) | omega | fail); have hPl : wr.heap.size < w9.heap.size := hP.lt; obtain ⟨hP0, hP1, hP2, hPf⟩ := id hP)); (try (have hP : FrG w9 (wd.heap.size) ⟨0, 0, 0⟩ := (by refine FrG.step (w := _) ?_ hx ?_ ?_; (repeat' (first | (with_reducible assumption) | (with_reducible exact FrG.new _ _ _) | (exact FrG.new _ ⟨0, 0, 0⟩ _) | (with_reducible apply FrG.alloc) | (with_reducible apply FrG.drewN) | (with_reducible apply FrG.drew))); first | done | (simp; omega) | omega | fail); have hPl : wd.heap.size < w9.heap.size := hP.lt; obtain ⟨hP0, hP1, hP2, hPf⟩ := id hP)); clear hu hx)))
          · obtain ⟨W, hW⟩ : ∃ W, W = w9.alloc (.cells #[.int .i64 p.re, .int .i64 p.im, .int .i64 p.den] 25) := ⟨_, rfl⟩
            obtain ⟨b7, hb7⟩ : ∃ b7, b7 = w9.heap.size := ⟨_, rfl⟩
            have hM : TK w bs ((bd || db) || pn) av W := by rw [hW]; exact hT9.alloc _
            have hx7 : FrG W b7 p := by rw [hW, hb7]; exact FrG.new w9 _ _
            have h7 : w.heap.size + 1 < b7 := by omega
            rw [← hW, ← hb7]
            clear hW hb7
            obtain ⟨x0, x1, x2, xf⟩ := id hx7
            obtain ⟨a0, a1, a2, af⟩ := hM.a
            have hla := hM.a.lt
            rcases Nat.eq_zero_or_pos k with hk0 | hk0
            · have hst := HST0.out hk0
              subst hk0
              go_wp2
              go_roundw
              case rel => exact ⟨1, by omega, by go_num, by rw [hst]; exact (hM.put hlt p).sub (by rw [HBD.out]; simp [Bool.or_assoc])⟩
              case measure => first | (simp [intOf]; done) | (simp [intOf]; omega)
            have hk1 : ((k : Int) == 0) = false := by first | (simp; done) | (simp; omega)
            cases ho : decide (k % 2 = 1)
            · have ho2 : k % 2 = 0 := by simp at ho; omega
              have h9 : Int.tmod (k : Int) 2 = ((k % 2 : Nat) : Int) := (Int.ofNat_tmod k 2).symm
              have ho1 : (Int.tmod (k : Int) 2 == 1) = false := by rw [h9, ho2]; rfl
              clear h9
              have hst := HST2.out hk0 ho2
              clear ho
              go_wp2_with (go_at_call 45; (with_reducible refine (x_add av p bs _ (SumEx.of hM.s)).mono ?_); rintro e w5 ⟨rfl, hu, hb⟩; refine Hid.out ?_)
              refine Lib.hid ?_
              have hM5 := hM.belX hlt hb (hu _ hM.s)
              clear hb hu x0 x1 x2 xf a0 a1 a2 af hM hx7
              obtain ⟨a0, a1, a2, af⟩ := hM5.a
              have hla := hM5.a.lt
              go_wp2
              go_roundw
              case rel => exact ⟨k + 1, by omega, by go_num, by rw [hst]; exact (hM5.put hlt _).sub (by rw [HBD.out]; simp [Bool.or_assoc])⟩
              case measure => simp [intOf]; omega
            · have ho2 : k % 2 = 1 := by simpa using ho
              have h9 : Int.tmod (k : Int) 2 = ((k % 2 : Nat) : Int) := (Int.ofNat_tmod k 2).symm
              have ho1 : (Int.tmod (k : Int) 2 == 1) = true := by rw [h9, ho2]; rfl
              clear h9
              have hst := HST1.out ho2
              clear ho
              go_wp2_with (go_at_call 46; (with_reducible refine (x_less av p bs _ (SumEx.of hM.s)).mono ?_); rintro e w5 ⟨rfl, hu, hb⟩; refine Hid.out ?_)
              refine Lib.hid ?_
              have hM5 := hM.belX hlt hb (hu _ hM.s)
              clear hb hu x0 x1 x2 xf a0 a1 a2 af hM hx7
              obtain ⟨a0, a1, a2, af⟩ := hM5.a
              have hla := hM5.a.lt
              go_wp2
              go_roundw
              case rel => exact ⟨k + 1, by omega, by go_num, by rw [hst]; exact (hM5.put hlt _).sub (by rw [HBD.out]; simp [Bool.or_assoc])⟩
              case measure => simp [intOf]; omega
          · obtain ⟨W, hW⟩ : ∃ W, W = (((w9.setCell ⟨wd.heap.size, 0, none⟩ (.int .i64 p.re)).setCell ⟨wd.heap.size, 1, none⟩ (.int .i64 p.im)).setCell ⟨wd.heap.size, 2, none⟩ (.int .i64 p.den)) := ⟨_, rfl⟩
            obtain ⟨b7, hb7⟩ : ∃ b7, b7 = wd.heap.size := ⟨_, rfl⟩
            have hM : TK w bs ((bd || db) || pn) av W := by rw [hW]; exact ((hT9.far hlt (by simp; omega) _).far hlt (by simp; omega) _).far hlt (by simp; omega) _
            have hx7 : FrG W b7 p := by rw [hW, hb7]; exact hP.put _
            have h7 : w.heap.size + 1 < b7 := by omega
            rw [← hW, ← hb7]
            clear hW hb7
            obtain ⟨x0, x1, x2, xf⟩ := id hx7
            obtain ⟨a0, a1, a2, af⟩ := hM.a
            have hla := hM.a.lt
            rcases Nat.eq_zero_or_pos k with hk0 | hk0
            · have hst := HST0.out hk0
              subst hk0
              go_wp2
              go_roundw
              case rel => exact ⟨1, by omega, by go_num, by rw [hst]; exact (hM.put hlt p).sub (by rw [HBD.out]; simp [Bool.or_assoc])⟩
              case measure => first | (simp [intOf]; done) | (simp [intOf]; omega)
            have hk1 : ((k : Int) == 0) = false := by first | (simp; done) | (simp; omega)
            cases ho : decide (k % 2 = 1)
            · have ho2 : k % 2 = 0 := by simp at ho; omega
              have h9 : Int.tmod (k : Int) 2 = ((k % 2 : Nat) : Int) := (Int.ofNat_tmod k 2).symm
              have ho1 : (Int.tmod (k : Int) 2 == 1) = false := by rw [h9, ho2]; rfl
              clear h9
              have hst := HST2.out hk0 ho2
              clear ho
              go_wp2_with (go_at_call 45; (with_reducible refine (x_add av p bs _ (SumEx.of hM.s)).mono ?_); rintro e w5 ⟨rfl, hu, hb⟩; refine Hid.out ?_)
              refine Lib.hid ?_
              have hM5 := hM.belX hlt hb (hu _ hM.s)
              clear hb hu x0 x1 x2 xf a0 a1 a2 af hM hx7
              obtain ⟨a0, a1, a2, af⟩ := hM5.a
              have hla := hM5.a.lt
              go_wp2
              go_roundw
              case rel => exact ⟨k + 1, by omega, by go_num, by rw [hst]; exact (hM5.put hlt _).sub (by rw [HBD.out]; simp [Bool.or_assoc])⟩
              case measure => simp [intOf]; omega
            · have ho2 : k % 2 = 1 := by simpa using ho
              have h9 : Int.tmod (k : Int) 2 = ((k % 2 : Nat) : Int) := (Int.ofNat_tmod k 2).symm
              have ho1 : (Int.tmod (k : Int) 2 == 1) = true := by rw [h9, ho2]; rfl
              clear h9
              have hst := HST1.out ho2
              clear ho
              go_wp2_with (go_at_call 46; (with_reducible refine (x_less av p bs _ (SumEx.of hM.s)).mono ?_); rintro e w5 ⟨rfl, hu, hb⟩; refine Hid.out ?_)
              refine Lib.hid ?_
              have hM5 := hM.belX hlt hb (hu _ hM.s)
              clear hb hu x0 x1 x2 xf a0 a1 a2 af hM hx7
              obtain ⟨a0, a1, a2, af⟩ := hM5.a
              have hla := hM5.a.lt
              go_wp2
              go_roundw
              case rel => exact ⟨k + 1, by omega, by go_num, by rw [hst]; exact (hM5.put hlt _).sub (by rw [HBD.out]; simp [Bool.or_assoc])⟩
              case measure => simp [intOf]; omega
          · obtain ⟨W, hW⟩ : ∃ W, W = (((w9.setCell ⟨wr.heap.size, 0, none⟩ (.int .i64 p.re)).setCell ⟨wr.heap.size, 1, none⟩ (.int .i64 p.im)).setCell ⟨wr.heap.size, 2, none⟩ (.int .i64 p.den)) := ⟨_, rfl⟩
            obtain ⟨b7, hb7⟩ : ∃ b7, b7 = wr.heap.size := ⟨_, rfl⟩
            have hM : TK w bs ((bd || db) || pn) av W := by rw [hW]; exact ((hT9.far hlt (by simp; omega) _).far hlt (by simp; omega) _).far hlt (by simp; omega) _
            have hx7 : FrG W b7 p := by rw [hW, hb7]; exact hP.put _
            have h7 : w.heap.size + 1 < b7 := by omega
            rw [← hW, ← hb7]
            clear hW hb7
            obtain ⟨x0, x1, x2, xf⟩ := id hx7
            obtain ⟨a0, a1, a2, af⟩ := hM.a
            have hla := hM.a.lt
            rcases Nat.eq_zero_or_pos k with hk0 | hk0
            · have hst := HST0.out hk0
              subst hk0
              go_wp2
              go_roundw
              case rel => exact ⟨1, by omega, by go_num, by rw [hst]; exact (hM.put hlt p).sub (by rw [HBD.out]; simp [Bool.or_assoc])⟩
              case measure => first | (simp [intOf]; done) | (simp [intOf]; omega)
            have hk1 : ((k : Int) == 0) = false := by first | (simp; done) | (simp; omega)
            cases ho : decide (k % 2 = 1)
            · have ho2 : k % 2 = 0 := by simp at ho; omega
              have h9 : Int.tmod (k : Int) 2 = ((k % 2 : Nat) : Int) := (Int.ofNat_tmod k 2).symm
              have ho1 : (Int.tmod (k : Int) 2 == 1) = false := by rw [h9, ho2]; rfl
              clear h9
              have hst := HST2.out hk0 ho2
              clear ho
              go_wp2_with (go_at_call 45; (with_reducible refine (x_add av p bs _ (SumEx.of hM.s)).mono ?_); rintro e w5 ⟨rfl, hu, hb⟩; refine Hid.out ?_)
              refine Lib.hid ?_
              have hM5 := hM.belX hlt hb (hu _ hM.s)
              clear hb hu x0 x1 x2 xf a0 a1 a2 af hM hx7
              obtain ⟨a0, a1, a2, af⟩ := hM5.a
              have hla := hM5.a.lt
              go_wp2
              go_roundw
              case rel => exact ⟨k + 1, by omega, by go_num, by rw [hst]; exact (hM5.put hlt _).sub (by rw [HBD.out]; simp [Bool.or_assoc])⟩
              case measure => simp [intOf]; omega
            · have ho2 : k % 2 = 1 := by simpa using ho
              have h9 : Int.tmod (k : Int) 2 = ((k % 2 : Nat) : Int) := (Int.ofNat_tmod k 2).symm
              have ho1 : (Int.tmod (k : Int) 2 == 1) = true := by rw [h9, ho2]; rfl
              clear h9
              have hst := HST1.out ho2
              clear ho
              go_wp2_with (go_at_call 46; (with_reducible refine (x_less av p bs _ (SumEx.of hM.s)).mono ?_); rintro e w5 ⟨rfl, hu, hb⟩; refine Hid.out ?_)
              refine Lib.hid ?_
              have hM5 := hM.belX hlt hb (hu _ hM.s)
              clear hb hu x0 x1 x2 xf a0 a1 a2 af hM hx7
              obtain ⟨a0, a1, a2, af⟩ := hM5.a
              have hla := hM5.a.lt
              go_wp2
              go_roundw
              case rel => exact ⟨k + 1, by omega, by go_num, by rw [hst]; exact (hM5.put hlt _).sub (by rw [HBD.out]; simp [Bool.or_assoc])⟩
              case measure => simp [intOf]; omega
    · obtain rfl : k = n + 2 := by omega
      obtain ⟨a0, a1, a2, af⟩ := hT.a
      obtain ⟨r0', r1', r2', rf'⟩ := hT.r
      have hla := hT.a.lt
      have hdd : detI (n + 1) rows = detIK (detI n) rows (n + 2) := rfl
      have e1 : R1 = av := by rw [HR1.out, hdd, HAV.out]
      have e2 : R2 = bd := by rw [HR2.out, hdd, HBD.out]
      subst e1 e2
      have hs9 := hT.s
      have hX9 := hT.X
      go_wp2
      exact bodyPost_ret (v := frv R1) (by simp [results, Tryz.results87, go_sem, *]) rfl ⟨rfl, by exact sum_, by exact belx_⟩
end Go.Proofs.YtodhbkinbcemnaaGreatDoor
