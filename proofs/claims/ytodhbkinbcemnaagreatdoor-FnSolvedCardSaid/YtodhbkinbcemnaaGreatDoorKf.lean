/-
  The walk of the reference's determinant.
-/
import Derived.Test.YtodhbkinbcemnaaGreatDoorKd
import Derived.Test.YtodhbkinbcemnaaGreatDoorKe
import Derived.Deep.RegionWith
namespace Go.Proofs.YtodhbkinbcemnaaGreatDoor
set_option linter.unusedSimpArgs false
set_option linter.unusedVariables false
open Go.RowKit
attribute [local go_sem ↓] Go.wp_at_zero Go.wp_at_succ
/-- What the call's own memory holds. -/
structure TQ (w : World) (bs : Nat) (bad : Bool) (acc : Fr) (W : World) : Prop where
  r : FrG W w.heap.size ⟨0, 0, 0⟩
  a : FrG W (w.heap.size + 1) acc
  s : OkIs W bs bad
  X : BelX w.heap.size bs w W
section
variable {w W w1 : World} {bs : Nat} {bad : Bool} {acc : Fr}
theorem TQ.below (h : TQ w bs bad acc W) (hb : Below W.heap.size W w1) : TQ w bs bad acc w1 := ⟨h.r.below hb, h.a.below hb, h.s.below hb h.s.lt, h.X.stepB hb h.X.size⟩
theorem TQ.alloc (h : TQ w bs bad acc W) (o : Obj) : TQ w bs bad acc (W.alloc o) := h.below ((Below.refl _ _).alloc (Nat.le_refl _) o)
theorem TQ.drew (h : TQ w bs bad acc W) : TQ w bs bad acc W.drew := ⟨h.r.drew, h.a.drew, h.s.drew, h.X.drew⟩
theorem TQ.drewN (h : TQ w bs bad acc W) (n : Nat) : TQ w bs bad acc (W.drewN n) := ⟨h.r.drewN n, h.a.drewN n, h.s.drewN n, h.X.drewN n⟩
theorem TQ.belX (h : TQ w bs bad acc W) (hlt : bs < w.heap.size) (hb : BelX W.heap.size bs W w1) {c : Bool} (hs : OkIs w1 bs c) : TQ w bs c acc w1 :=
  ⟨h.r.step hb h.r.lt (by omega), h.a.step hb h.a.lt (by omega), hs, BelX.step h.X hb h.X.size⟩
theorem TQ.far (h : TQ w bs bad acc W) (hlt : bs < w.heap.size) {p : Addr} (hp : w.heap.size + 1 < p.block) (u : Value) : TQ w bs bad acc (W.setCell p u) :=
  ⟨h.r.far (by omega) u, h.a.far (by omega) u, h.s.far (by omega) u, h.X.setCell (by omega) u⟩
theorem TQ.put (h : TQ w bs bad acc W) (hlt : bs < w.heap.size) (y : Fr) : TQ w bs bad y (((W.setCell ⟨w.heap.size + 1, 0, none⟩ (.int .i64 y.re)).setCell ⟨w.heap.size + 1, 1, none⟩ (.int .i64 y.im)).setCell ⟨w.heap.size + 1, 2, none⟩ (.int .i64 y.den)) :=
  ⟨((h.r.far (by simp) _).far (by simp) _).far (by simp) _, h.a.put y, ((h.s.far (by simp; omega) _).far (by simp; omega) _).far (by simp; omega) _, ((h.X.setCell (by simp) _).setCell (by simp) _).setCell (by simp) _⟩
end
theorem TQ.sub {w W : World} {bs : Nat} {b c : Bool} {acc : Fr} (h : TQ w bs b acc W) (e : b = c) : TQ w bs c acc W := e ▸ h
theorem TQ.grown {w W w1 : World} {bs : Nat} {bad : Bool} {acc : Fr} {row : Option Nat} (h : TQ w bs bad acc W) (hlt : bs < w.heap.size) (hg : W.grownBy w1 row) (hr : ∀ k, row = some k → w.heap.size + 1 < k) : TQ w bs bad acc w1 := by
  have hk : ∀ b, b ≤ w.heap.size + 1 → b < W.heap.size → w1.heap[b]? = W.heap[b]? := fun b h1 h2 => hg.block b h2 (fun e => by have := hr b e.symm; omega)
  have key : ∀ b m, b ≤ w.heap.size + 1 → FrG W b m → FrG w1 b m := fun b m hb hm => by
    have e := hk b hb hm.lt
    have c := fun o => World.cell?_of_block (w := W) (a := ⟨b, o, none⟩) e
    exact ⟨(c 0).trans hm.c0, (c 1).trans hm.c1, (c 2).trans hm.c2, fun o => (World.frozen?_of_block (w := W) e).trans (hm.f o)⟩
  refine ⟨key _ _ (by omega) h.r, key _ _ (by omega) h.a, (hk bs (by omega) h.s.lt).trans h.s, ?_⟩
  exact ⟨hg.os.trans h.X.os, hg.tape.trans h.X.tape, hg.output.trans h.X.output, Nat.le_trans h.X.size hg.size, fun k h1 h2 => (hk k (by omega) (Nat.lt_of_lt_of_le h1 h.X.size)).trans (h.X.block k h1 h2)⟩
/-- A column's step, by its parts. -/
theorem stepS_eq {D : List (List Fr) → Fr × Bool} {rows : List (List Fr)} {s : Fr × Bool} {k : Nat} {f dv p : Fr} {db pn : Bool} (he : entryK rows k = f) (hd : D (minorK k rows) = (dv, db)) (hp : (timesI f dv).getD ⟨0, 0, 0⟩ = p) (hn : (timesI f dv).isNone = pn) :
    (k % 2 = 1 → stepS D rows s k = ((lessI s.1 p).getD ⟨0, 0, 0⟩, ((s.2 || db) || pn) || (lessI s.1 p).isNone)) ∧ (k % 2 = 0 → stepS D rows s k = ((addI s.1 p).getD ⟨0, 0, 0⟩, ((s.2 || db) || pn) || (addI s.1 p).isNone)) := by
  unfold stepS zK
  simp only [he, hd, hp, hn]
  exact ⟨fun h => by rw [if_pos h], fun h => by rw [if_neg (by omega)]⟩
theorem y_times_m (a b p : Fr) (pn : Bool) (bs : Nat) (w : World) (hs : OkEx w bs) (hp : Hid ((timesI a b).getD ⟨0, 0, 0⟩ = p)) (hn : Hid ((timesI a b).isNone = pn)) :
    Calls Tryz.prog 116 #[.pointer (some ⟨bs, 0, none⟩), frv a, frv b] w fun e w' => e = .returned (frv p) ∧ (∀ c, OkIs w bs c → OkIs w' bs (c || pn)) ∧ BelX w.heap.size bs w w' := by
  rw [← hp.out, ← hn.out]; exact y_times a b bs w hs
/-- What the determinant of n + 1 rows does. -/
def DetD (n : Nat) : Prop := ∀ (A : Option Addr) (cap bs : Nat) (rows : List (List Fr)) (w : World), Shape n rows → RowsAt bs A (n + 1) cap rows w → OkEx w bs →
  Calls Tryz.prog 92 #[.pointer (some ⟨bs, 0, none⟩), .slice A (n + 1) cap] w fun e w' => e = .returned (frv (detS n rows).1) ∧ (∀ c, OkIs w bs c → OkIs w' bs (c || (detS n rows).2)) ∧ BelX w.heap.size bs w w'
set_option maxRecDepth 100000 in
set_option maxHeartbeats 8000000 in
theorem sdet_zero : DetD 0 := by
  intro A cap bs rows w hsh hR hS
  obtain ⟨b1, o1, A1, c1, r, rfl, hb1, hne1, hr, hcell, hF, -⟩ := hR.at (i := 0) (by omega)
  have hrl : r.length = 1 := hsh.2 r (List.mem_of_getElem? hr)
  rw [hrl] at hcell hF
  obtain ⟨b2, o2, f, rfl, hb2, hf, hat⟩ := hF.at (Below.refl _ _) (k := 0) (by omega)
  have he : (detS 0 rows) = (f, false) := by
    show (entryK rows 0, false) = _
    have h1 : rows.headD [] = r := by cases rows <;> simp at hr ⊢; exact hr
    rw [entryK, h1, List.getD, hf]
    rfl
  rw [he]
  rw [Nat.zero_mul, Nat.add_zero] at hat
  rw [Nat.add_zero] at hcell
  obtain ⟨c0, c1', c2⟩ := hat
  have HS := Lib.hid hS
  clear hr hf he hR hsh hF hS hrl
  go_enter Tryz.func92, Tryz.ntmps92
  go_wp2
  exact bodyPost_ret (v := frv f) (by simp [results, Tryz.results92, go_sem, *]) rfl ⟨rfl, fun c hc => by rw [Bool.or_false]; (repeat' (first | (with_reducible assumption) | (with_reducible apply OkIs.far) | (with_reducible apply OkIs.alloc) | (with_reducible apply OkIs.drewN) | (with_reducible apply OkIs.drew) | omega | (simp; done) | (simp; omega))), by exact belx_⟩
set_option maxRecDepth 100000 in
set_option maxHeartbeats 16000000 in
theorem sdet_step (n : Nat) (hn : n ≤ 2) (IH : DetD n) : DetD (n + 1) := by
  intro A cap bs rows w hsh hR hS
  obtain ⟨c0, hc0⟩ := hS
  have hlt := hc0.lt
  suffices Calls Tryz.prog 92 #[.pointer (some ⟨bs, 0, none⟩), .slice A (n + 2) cap] w fun e w' => e = .returned (frv (detS (n + 1) rows).1) ∧ OkIs w' bs (c0 || (detS (n + 1) rows).2) ∧ BelX w.heap.size bs w w' from
    this.mono fun _ _ ⟨h1, h2, h3⟩ => ⟨h1, fun c hc => by rw [← hc0.uniq hc]; exact h2, h3⟩
  obtain ⟨bb, oo, A1, c1, r0, rfl, hbb, hne, hr0, hcell0, hF0, hn0⟩ := hR.at (i := 0) (by omega)
  have hl0 : r0.length = n + 2 := hsh.2 r0 (List.mem_of_getElem? hr0)
  rw [hl0] at hcell0 hF0
  rw [Nat.add_zero] at hcell0
  obtain ⟨b1, o1, -, rfl, hb1l, -, -⟩ := hF0.at (Below.refl _ _) (k := 0) (by omega)
  have hb1n := hn0 b1 o1 rfl
  have hcap := hR.2.1
  have hcap2 := hR.2.2.1
  have hEnt : ∀ k f, r0[k]? = some f → entryK rows k = f := by
    intro k f hf
    have h1 : rows.headD [] = r0 := by cases rows <;> simp at hr0 ⊢; exact hr0
    rw [entryK, h1, List.getD, hf]
    rfl
  have hC4 : ∀ k f, r0[k]? = some f → ∀ W', BelX w.heap.size bs w W' → W'.cell? ⟨bb, oo, none⟩ = some (.slice (some ⟨b1, o1, none⟩) (n + 2) c1) ∧ W'.cell? ⟨b1, o1 + k * 3, none⟩ = some (.int .i64 f.re) ∧ W'.cell? ⟨b1, o1 + k * 3 + 1, none⟩ = some (.int .i64 f.im) ∧ W'.cell? ⟨b1, o1 + k * 3 + 2, none⟩ = some (.int .i64 f.den) := by
    intro k f hf W' hW
    obtain ⟨b', o', f', e, -, hf', hat⟩ := (hF0.belX hW hn0).at (Below.refl _ _) (k := k) (by have := (List.getElem?_eq_some_iff.1 hf).1; omega)
    simp only [Option.some.injEq, Addr.mk.injEq, and_true] at e
    obtain ⟨rfl, rfl⟩ := e
    rw [hf] at hf'
    obtain rfl := Option.some.inj hf'
    exact ⟨(World.cell?_of_block (hW.block bb hbb hne)).trans hcell0, hat.1, hat.2.1, hat.2.2⟩
  have HE := Lib.hid hEnt
  have HC4 := Lib.hid hC4
  have HSH := Lib.hid hsh
  have HL0 := Lib.hid hl0
  have hT0 : TQ w bs (c0 || (detSK (detS n) rows 0).2) (detSK (detS n) rows 0).1 ((w.alloc (.cells #[.int .i64 0, .int .i64 0, .int .i64 0] 25)).alloc (.cells #[.int .i64 0, .int .i64 0, .int .i64 1] 25)) :=
    ⟨(FrG.new w ⟨0, 0, 0⟩ _).alloc _, (by show FrG _ (w.heap.size + 1) ⟨0, 0, 1⟩; simpa using FrG.new (w.alloc (.cells #[.int .i64 0, .int .i64 0, .int .i64 0] 25)) ⟨0, 0, 1⟩ 25), by show OkIs _ bs (c0 || false); rw [Bool.or_false]; exact (hc0.alloc _).alloc _, by exact belx_⟩
  clear hEnt hC4 hl0 hr0 hcell0 hF0 hn0
  obtain ⟨R1, hR1⟩ : ∃ x, x = (detS (n + 1) rows).1 := ⟨_, rfl⟩
  obtain ⟨R2, hR2⟩ : ∃ x, x = (c0 || (detS (n + 1) rows).2) := ⟨_, rfl⟩
  rw [← hR1, ← hR2]
  have HR1 := Lib.hid hR1
  have HR2 := Lib.hid hR2
  clear hR1 hR2
  have hx1 : ((n : Int) + 2 == 1) = false := by simp; omega
  go_enter Tryz.func92, Tryz.ntmps92
  go_wp2
  go_loopw [6] (fun i wr => ∃ k : Nat, k ≤ n + 2 ∧ i = .int .i64 k ∧ TQ w bs (c0 || (detSK (detS n) rows k).2) (detSK (detS n) rows k).1 wr) (fun i _ => n + 2 - (intOf i).toNat)
  case atStart => exact ⟨0, by omega, rfl, hT0⟩
  case round =>
    clear hT0
    obtain ⟨k, hk, rfl, hT⟩ := hrel
    rename World => wo
    obtain ⟨av, hav⟩ : ∃ x, x = (detSK (detS n) rows k).1 := ⟨_, rfl⟩
    obtain ⟨bd, hbd⟩ : ∃ x, x = (c0 || (detSK (detS n) rows k).2) := ⟨_, rfl⟩
    rw [← hav, ← hbd] at hT
    have HAV := Lib.hid hav
    have HBD := Lib.hid hbd
    clear hav hbd
    have hz := hT.a.lt
    by_cases hk2 : k < n + 2
    · have hx2 : decide ((k : Int) < (n : Int) + 2) = true := by simp; omega
      have hT1 := hT.alloc (.cells #[] 31)
      have hO0 := OwRs.made wo wo.heap.size (Nat.le_refl _)
      go_wp2
      go_loopw [7, 8] (fun v jv wr => ∃ j : Nat, j ≤ n + 1 ∧ jv = .int .i64 ((j : Int) + 1) ∧ OwRs wo.heap.size v ((rows.tail.take j).map (cutK k)) wr ∧ TQ w bs bd av wr ∧ wo.heap.size ≤ wr.heap.size) (fun _ jv _ => n + 2 - (intOf jv).toNat)
      case atStart => exact ⟨0, by omega, rfl, hO0, hT1, by simp⟩
      case round =>
        clear hT1 hO0
        obtain ⟨j, hj, rfl, hOi, hTi, hwi⟩ := hrel
        have hzi := hTi.a.lt
        by_cases hj2 : j < n + 1
        · obtain ⟨bb', oo', A2, c2, r, e0, -, -, hr, hcell, hF, -⟩ := (hR.belX hTi.X).at (i := j + 1) (by omega)
          simp only [Option.some.injEq, Addr.mk.injEq, and_true] at e0
          obtain ⟨rfl, rfl⟩ := e0
          have hrl : r.length = n + 2 := HSH.out.2 r (List.mem_of_getElem? hr)
          rw [hrl] at hcell hF
          obtain ⟨b2, o2, -, rfl, -, -, -⟩ := hF.at (Below.refl _ _) (k := 0) (by omega)
          have hc2 := hF.2.1
          have hc22 := hF.2.2.1
          have hcell2 : wr.cell? ⟨bb, oo + (j + 1), none⟩ = some (.slice (some ⟨b2, o2, none⟩) (n + 2) c2) := hcell
          have hC9 : ∀ W', BelX w.heap.size bs w W' → W'.cell? ⟨bb, oo + (j + 1), none⟩ = some (.slice (some ⟨b2, o2, none⟩) (n + 2) c2) := by
            intro W' hW
            have h1 := World.cell?_of_block (a := ⟨bb, oo + (j + 1), none⟩) (hTi.X.block bb hbb hne)
            have h2 := World.cell?_of_block (a := ⟨bb, oo + (j + 1), none⟩) (hW.block bb hbb hne)
            exact h2.trans (h1.symm.trans hcell2)
          have hall : ∀ W', Below wr.heap.size wr W' → ∀ i z, r[i]? = some z → FAt W' b2 (o2 + i * 3) z := by
            intro W' hW i z hz
            obtain ⟨b', o', f', e, -, hf', hat⟩ := (hF.below hW).at (Below.refl _ _) (k := i) (by have := (List.getElem?_eq_some_iff.1 hz).1; omega)
            simp only [Option.some.injEq, Addr.mk.injEq, and_true] at e
            obtain ⟨rfl, rfl⟩ := e
            rw [hz] at hf'
            obtain rfl := Option.some.inj hf'
            exact hat
          have hPre : ∀ W', Below wr.heap.size wr W' → ∀ i z, (r.take k)[i]? = some z → FAt W' b2 (o2 + i * 3) z := fun W' hW i z hz => hall W' hW i z (take_get hz)
          have hSuf : ∀ W', Below wr.heap.size wr W' → ∃ bb off : Nat, (if c2 = k + 1 then some (⟨b2, o2, none⟩ : Addr) else some ⟨b2, o2 + (k + 1) * 3, none⟩) = some ⟨bb, off, none⟩ ∧ ∀ i z, (r.drop (k + 1))[i]? = some z → FAt W' bb (off + i * 3) z := fun W' hW => by
            by_cases hck : c2 = k + 1
            · rw [if_pos hck]
              exact ⟨b2, o2, rfl, fun i z hz => by have := (List.getElem?_eq_some_iff.1 hz).1; rw [List.length_drop] at this; omega⟩
            · rw [if_neg hck]
              refine ⟨b2, _, rfl, fun i z hz => ?_⟩
              rw [List.getElem?_drop] at hz
              have := hall W' hW _ z hz
              rwa [show o2 + (k + 1 + i) * 3 = o2 + (k + 1) * 3 + i * 3 by omega] at this
          have hzl : (r.take k).length = k := by rw [List.length_take]; omega
          have hzd : (r.drop (k + 1)).length = n + 1 - k := by rw [List.length_drop]; omega
          have hml : ((rows.tail.take j).map (cutK k)).length = j := by rw [List.length_map, List.length_take, List.length_tail, HSH.out.1]; omega
          have HNX := Lib.hid (minor_next (k := k) hr)
          clear hF hcell hall hr
          have hcl : (cutK k r).length = n + 1 := by rw [cutK, List.length_append, hzl, hzd]; omega
          have HCL := Lib.hid hcl
          clear hcl
          obtain ⟨AD, hAD⟩ : ∃ AD, (if c2 = k + 1 then some (⟨b2, o2, none⟩ : Addr) else some ⟨b2, o2 + (k + 1) * 3, none⟩) = AD := ⟨_, rfl⟩
          rw [hAD] at hSuf
          have HPre := Lib.hid hPre
          have HSuf := Lib.hid hSuf
          have HZL := Lib.hid hzl
          have HZD := Lib.hid hzd
          have HML := Lib.hid hml
          have HRL := Lib.hid hrl
          clear hPre hSuf hzl hzd hml hrl
          go_upto_region 11 with fail
          have i0 : (0 : Int) ≤ (k : Int) := by omega
          have i1 : (k : Int) ≤ (c2 : Int) := by omega
          have i2 : (k : Int) ≤ (n : Int) + 2 := by omega
          have i3 : (k : Int) + 1 ≤ (n : Int) + 2 := by omega
          have i4 : (0 : Int) ≤ (k : Int) + 1 := by omega
          have i5 : ((k : Int) + 1).toNat = k + 1 := by omega
          have i6 : (n : Int) + 2 ≤ (c2 : Int) := by omega
          have i7 : IntKind.i64.wrap ((k : Int) + 1) = (k : Int) + 1 := IntWalk.i64_in _ (by omega)
          have hs0 := hTi.s
          have hsl : bs < wr.heap.size := by omega
          have hbz : Below wr.heap.size wr (wr.drew.alloc (.cells #[] 25)) := (Below.refl _ _).drew.alloc (Nat.le_refl _) _
          have hln1 : ([] : List Fr).length + k < 4000000 := by simp; omega
          have hln2 : ([] ++ r.take k).length + (n + 1 - k) < 4000000 := by simp; omega
          have hln3 : ((rows.tail.take j).map (cutK k)).length + 1 < 4000000 := by rw [HML.out]; omega
          have j1 : (0 : Int) ≤ (j : Int) + 1 := by omega
          have j2 : (j : Int) + 1 < (n : Int) + 2 := by omega
          have j3 : ((j : Int) + 1).toNat = j + 1 := by omega
          go_region_held3 (fun w' => w'.cell? ⟨bb, oo + (j + 1), none⟩ = some (.slice (some ⟨b2, o2, none⟩) (n + 2) c2)) ((refine hC9 _ ?_; (repeat' (first | (with_reducible exact TQ.X (by assumption)) | (with_reducible assumption) | (with_reducible refine BelX.alloc ?_ side_ _) | (with_reducible refine BelX.drewN ?_ _) | (with_reducible refine BelX.drew ?_))))) (first | ((refine step_of (by rfl) (wp_appF _ _ (by rfl) wr.heap.size (.slice (some ⟨wr.heap.size, 0, none⟩) 0 0) [] (wr.drew.alloc (.cells #[] 25)) (by rfl) (OwF.made wr.drew wr.heap.size (Nat.le_refl _)) (some ⟨b2, o2, none⟩) k c2 (r.take k) (by rfl) HZL.out ⟨b2, o2, rfl, HPre.out _ hbz⟩ hln1 hbz.size ?_); intro v1 w1 hO1 hg1 hat1; have hb1 : Below wr.heap.size wr w1 := Below.grown hbz hg1 hbz.size (fun kk e => by simp [Value.ownBlock] at e; omega); have hTv := hTi.below hb1; have hzv := hb1.size)) | ((refine step_of (by rfl) (wp_appF _ _ (by rfl) wr.heap.size v1 ([] ++ r.take k) w1 (by rfl) hO1 AD (n + 1 - k) (c2 - (k + 1)) (r.drop (k + 1)) (by rfl) HZD.out (HSuf.out w1 hb1) hln2 hb1.size ?_); intro v2 w2 hO2 hg2 hat2; have hO9 : OwF wr.heap.size v2 (cutK k r) w2 := hO2; clear hO2; obtain ⟨A9, c9, e9, -⟩ := hO9.frs; rw [HCL.out] at e9; subst e9; have hb2 : Below wr.heap.size wr w2 := Below.grown hb1 hg2 hb1.size (fun kk e => (hO1.lt kk e).1); have hTv2 := hTi.below hb2; have hzv2 := hb2.size)) | ((refine step_of (by rfl) (wp_appR _ _ (by rfl) wo.heap.size u7 ((rows.tail.take j).map (cutK k)) (w2.alloc (.cells #[.slice A9 (n + 1) c9] 31)) (by rfl) ((OwRs.below (B := 0) hOi hb2).alloc _) w2.heap.size 1 (by rfl) wr.heap.size (.slice A9 (n + 1) c9) (cutK k r) (hO9.alloc _) (fun kk e => (hOi.lt kk e).2) hwi (World.cell?_alloc_at _ _ _ _ rfl) hln3 (Nat.le_trans hwi (Nat.le_trans hb2.size (by simp))) ?_); intro v3 w3 hO3 hg3; have hT3 := TQ.grown ((hTi.below hb2).alloc _) hlt hg3 (fun kk e => Nat.lt_of_lt_of_le hz (hOi.lt kk e).1))))
          have hz3 : wo.heap.size ≤ w3.heap.size := by
            have h8 := hg3.size
            have h9 := hb2.size
            simp only [World.size_alloc] at h8
            omega
          clear i7 i5 hAD j3
          go_wp2
          go_roundw
          case rel => exact ⟨j + 1, by omega, by go_num, by rw [HNX.out]; exact hO3, hT3, hz3⟩
          case measure => simp [intOf]; omega
        · obtain rfl : j = n + 1 := by omega
          have hm1 : (rows.tail.take (n + 1)).map (cutK k) = minorK k rows := by
            rw [List.take_of_length_le (by rw [List.length_tail, HSH.out.1]; omega)]
            rfl
          have hshm : Shape n (minorK k rows) := HSH.out.minor hk2
          rw [hm1] at hOi
          obtain ⟨A3, c3, e3, hRm⟩ := hOi.read (bs := bs) (by omega)
          rw [hshm.1] at e3 hRm
          subst e3
          obtain ⟨f, hf⟩ : ∃ f, r0[k]? = some f := ⟨_, List.getElem?_eq_getElem (by have := HL0.out; omega)⟩
          obtain ⟨dv, hdv⟩ : ∃ x, x = (detS n (minorK k rows)).1 := ⟨_, rfl⟩
          obtain ⟨db, hdb⟩ : ∃ x, x = (detS n (minorK k rows)).2 := ⟨_, rfl⟩
          obtain ⟨p, hp⟩ : ∃ x, (timesI f dv).getD ⟨0, 0, 0⟩ = x := ⟨_, rfl⟩
          obtain ⟨pn, hpn⟩ : ∃ x, (timesI f dv).isNone = x := ⟨_, rfl⟩
          have HIH : Hid (∀ W, RowsAt bs A3 (n + 1) c3 (minorK k rows) W → OkEx W bs → Calls Tryz.prog 92 #[.pointer (some ⟨bs, 0, none⟩), .slice A3 (n + 1) c3] W fun e w' => e = .returned (frv dv) ∧ (∀ c, OkIs W bs c → OkIs w' bs (c || db)) ∧ BelX W.heap.size bs W w') := Lib.hid (fun W h1 h2 => by rw [hdv, hdb]; exact IH A3 c3 bs _ W hshm h1 h2)
          have hse := stepS_eq (D := detS n) (s := (detSK (detS n) rows k)) (db := db) (HE.out k f hf) (by rw [hdv, hdb]) hp hpn
          have hsd : detSK (detS n) rows (k + 1) = stepS (detS n) rows (detSK (detS n) rows k) k := rfl
          rw [← hsd, ← HAV.out] at hse
          have HSO := Lib.hid hse.1
          have HSE := Lib.hid hse.2
          have HP := Lib.hid hp
          have HPN := Lib.hid hpn
          have hC5 := HC4.out k f hf
          clear hse hsd hp hpn hdv hdb hf hm1 hOi hshm
          have i0 : (0 : Int) ≤ (k : Int) := by omega
          have i1 : (k : Int) < (n : Int) + 2 := by omega
          have i2 : (0 : Int) < (n : Int) + 2 := by omega
          obtain ⟨h0, h1, h2, h3⟩ := hC5 wr hTi.X
          obtain ⟨d0, d1, d2, df⟩ := hTi.a
          cases ht : decide (k % 2 = 1)
          · have ht2 : k % 2 = 0 := by first | (simpa using ht) | (simp at ht; omega)
            have h9 : Int.tmod (k : Int) 2 = ((k % 2 : Nat) : Int) := (Int.ofNat_tmod k 2).symm
            have ht3 : Int.tmod (k : Int) 2 = 0 := by rw [h9, ht2]; rfl
            have hw0 : IntKind.i64.wrap (1 - IntKind.i64.wrap 0) = 1 := by decide
            clear h9
            have hst := HSE.out (by simp at ht; omega)
            clear ht
            go_wp2
            go_region_with (first | (go_at_call 92; (with_reducible refine (HIH.out _ (RowsAt.belX hRm (by (repeat' (first | (with_reducible exact BelX.refl _ _ _) | (with_reducible refine BelX.alloc ?_ side_ _) | (with_reducible refine BelX.drewN ?_ _) | (with_reducible refine BelX.drew ?_))))) (OkEx.of (TQ.s (w := w) (acc := av) (bad := bd) (by (repeat' (first | (with_reducible assumption) | (with_reducible apply TQ.alloc) | (with_reducible apply TQ.drewN) | (with_reducible apply TQ.drew))))))).mono ?_); rintro e wd ⟨rfl, hu, hx⟩; have hT8 : TQ w bs (bd || db) av wd := TQ.belX (by (repeat' (first | (with_reducible assumption) | (with_reducible apply TQ.alloc) | (with_reducible apply TQ.drewN) | (with_reducible apply TQ.drew)))) hlt hx (hu _ (TQ.s (w := w) (acc := av) (by (repeat' (first | (with_reducible assumption) | (with_reducible apply TQ.alloc) | (with_reducible apply TQ.drewN) | (with_reducible apply TQ.drew)))))); obtain ⟨d0, d1, d2, df⟩ := hT8.a; obtain ⟨h0, h1, h2, h3⟩ := hC5 _ hT8.X; have hl8 := hT8.a.lt; clear hu hx) | (go_at_call 116; (with_reducible refine (y_times_m f dv p pn bs _ (OkEx.of (TQ.s (w := w) (acc := av) (bad := bd || db) (by (repeat' (first | (with_reducible assumption) | (with_reducible apply TQ.alloc) | (with_reducible apply TQ.drewN) | (with_reducible apply TQ.drew)))))) HP HPN).mono ?_); rintro e wt ⟨rfl, hu, hx⟩; have hT8 : TQ w bs ((bd || db) || pn) av wt := TQ.belX (by (repeat' (first | (with_reducible assumption) | (with_reducible apply TQ.alloc) | (with_reducible apply TQ.drewN) | (with_reducible apply TQ.drew)))) hlt hx (hu _ (TQ.s (w := w) (acc := av) (by (repeat' (first | (with_reducible assumption) | (with_reducible apply TQ.alloc) | (with_reducible apply TQ.drewN) | (with_reducible apply TQ.drew)))))); obtain ⟨d0, d1, d2, df⟩ := hT8.a; obtain ⟨h0, h1, h2, h3⟩ := hC5 _ hT8.X; have hl8 := hT8.a.lt; clear hu hx) | (go_at_call 72; (with_reducible refine (y_add av p bs _ (OkEx.of (TQ.s (w := w) (acc := av) (bad := (bd || db) || pn) (by (repeat' (first | (with_reducible assumption) | (with_reducible apply TQ.alloc) | (with_reducible apply TQ.drewN) | (with_reducible apply TQ.drew))))))).mono ?_); rintro e w9 ⟨rfl, hu, hx⟩; have hT9 := TQ.belX (w := w) (acc := av) (bad := (bd || db) || pn) (by (repeat' (first | (with_reducible assumption) | (with_reducible apply TQ.alloc) | (with_reducible apply TQ.drewN) | (with_reducible apply TQ.drew)))) hlt hx (hu _ (TQ.s (w := w) (acc := av) (by (repeat' (first | (with_reducible assumption) | (with_reducible apply TQ.alloc) | (with_reducible apply TQ.drewN) | (with_reducible apply TQ.drew)))))); obtain ⟨e0, e1, e2, ef⟩ := hT9.a; have hl9 := hT9.a.lt; clear hu hx))
            all_goals (
              go_wp2
              go_roundw
              (case rel => exact ⟨k + 1, by omega, by go_num, by rw [hst]; exact (hT9.put hlt _).sub (by rw [HBD.out]; simp [Bool.or_assoc])⟩)
              (case measure => simp [intOf]; omega))
          · have ht2 : k % 2 = 1 := by first | (simpa using ht) | (simp at ht; omega)
            have h9 : Int.tmod (k : Int) 2 = ((k % 2 : Nat) : Int) := (Int.ofNat_tmod k 2).symm
            have ht3 : Int.tmod (k : Int) 2 = 1 := by rw [h9, ht2]; rfl
            have hw0 : IntKind.i64.wrap (1 - IntKind.i64.wrap 2) = -1 := by decide
            clear h9
            have hst := HSO.out (by simpa using ht)
            clear ht
            go_wp2
            go_region_with (first | (go_at_call 92; (with_reducible refine (HIH.out _ (RowsAt.belX hRm (by (repeat' (first | (with_reducible exact BelX.refl _ _ _) | (with_reducible refine BelX.alloc ?_ side_ _) | (with_reducible refine BelX.drewN ?_ _) | (with_reducible refine BelX.drew ?_))))) (OkEx.of (TQ.s (w := w) (acc := av) (bad := bd) (by (repeat' (first | (with_reducible assumption) | (with_reducible apply TQ.alloc) | (with_reducible apply TQ.drewN) | (with_reducible apply TQ.drew))))))).mono ?_); rintro e wd ⟨rfl, hu, hx⟩; have hT8 : TQ w bs (bd || db) av wd := TQ.belX (by (repeat' (first | (with_reducible assumption) | (with_reducible apply TQ.alloc) | (with_reducible apply TQ.drewN) | (with_reducible apply TQ.drew)))) hlt hx (hu _ (TQ.s (w := w) (acc := av) (by (repeat' (first | (with_reducible assumption) | (with_reducible apply TQ.alloc) | (with_reducible apply TQ.drewN) | (with_reducible apply TQ.drew)))))); obtain ⟨d0, d1, d2, df⟩ := hT8.a; obtain ⟨h0, h1, h2, h3⟩ := hC5 _ hT8.X; have hl8 := hT8.a.lt; clear hu hx) | (go_at_call 116; (with_reducible refine (y_times_m f dv p pn bs _ (OkEx.of (TQ.s (w := w) (acc := av) (bad := bd || db) (by (repeat' (first | (with_reducible assumption) | (with_reducible apply TQ.alloc) | (with_reducible apply TQ.drewN) | (with_reducible apply TQ.drew)))))) HP HPN).mono ?_); rintro e wt ⟨rfl, hu, hx⟩; have hT8 : TQ w bs ((bd || db) || pn) av wt := TQ.belX (by (repeat' (first | (with_reducible assumption) | (with_reducible apply TQ.alloc) | (with_reducible apply TQ.drewN) | (with_reducible apply TQ.drew)))) hlt hx (hu _ (TQ.s (w := w) (acc := av) (by (repeat' (first | (with_reducible assumption) | (with_reducible apply TQ.alloc) | (with_reducible apply TQ.drewN) | (with_reducible apply TQ.drew)))))); obtain ⟨d0, d1, d2, df⟩ := hT8.a; obtain ⟨h0, h1, h2, h3⟩ := hC5 _ hT8.X; have hl8 := hT8.a.lt; clear hu hx) | (go_at_call 72; (with_reducible refine (y_less av p bs _ (OkEx.of (TQ.s (w := w) (acc := av) (bad := (bd || db) || pn) (by (repeat' (first | (with_reducible assumption) | (with_reducible apply TQ.alloc) | (with_reducible apply TQ.drewN) | (with_reducible apply TQ.drew))))))).mono ?_); rintro e w9 ⟨rfl, hu, hx⟩; have hT9 := TQ.belX (w := w) (acc := av) (bad := (bd || db) || pn) (by (repeat' (first | (with_reducible assumption) | (with_reducible apply TQ.alloc) | (with_reducible apply TQ.drewN) | (with_reducible apply TQ.drew)))) hlt hx (hu _ (TQ.s (w := w) (acc := av) (by (repeat' (first | (with_reducible assumption) | (with_reducible apply TQ.alloc) | (with_reducible apply TQ.drewN) | (with_reducible apply TQ.drew)))))); obtain ⟨e0, e1, e2, ef⟩ := hT9.a; have hl9 := hT9.a.lt; clear hu hx))
            all_goals (
              go_wp2
              go_roundw
              (case rel => exact ⟨k + 1, by omega, by go_num, by rw [hst]; exact (hT9.put hlt _).sub (by rw [HBD.out]; simp [Bool.or_assoc])⟩)
              (case measure => simp [intOf]; omega))
    · obtain rfl : k = n + 2 := by omega
      obtain ⟨a0, a1, a2, af⟩ := hT.a
      obtain ⟨r0', r1', r2', rf'⟩ := hT.r
      have hla := hT.a.lt
      have hdd : detS (n + 1) rows = detSK (detS n) rows (n + 2) := rfl
      have e1 : R1 = av := by rw [HR1.out, hdd, HAV.out]
      have e2 : R2 = bd := by rw [HR2.out, hdd, HBD.out]
      subst e1 e2
      have hs9 := hT.s
      have hX9 := hT.X
      go_wp2
      exact bodyPost_ret (v := frv R1) (by simp [results, Tryz.results92, go_sem, *]) rfl ⟨rfl, by (repeat' (first | (with_reducible assumption) | (with_reducible apply OkIs.far) | (with_reducible apply OkIs.alloc) | (with_reducible apply OkIs.drewN) | (with_reducible apply OkIs.drew) | omega | (simp; done) | (simp; omega))), by exact belx_⟩
end Go.Proofs.YtodhbkinbcemnaaGreatDoor
