/-
  Texts of this claim, joined: Rv; Uc; Ud; Ue. Nothing is claimed here; the other texts of this claim use it.
-/
import Derived.Test.YtodhbkinbcemnaaGreatDoorPj
import Derived.Test.YtodhbkinbcemnaaGreatDoorKe
import Derived.Test.YtodhbkinbcemnaaGreatDoorPt
import Derived.Test.YtodhbkinbcemnaaGreatDoorPo
import Derived.Test.YtodhbkinbcemnaaGreatDoorPr
import Derived.Deep.CutRange
namespace Go.Proofs.YtodhbkinbcemnaaGreatDoor
set_option linter.unusedSimpArgs false
set_option linter.unusedVariables false
section
open Go.RowKit
structure OJ (W0 : World) (bs : Nat) (bad : Nat → Bool) (als : List (Nat × Nat)) (st : Nat → Nat) (cz : Array Value) (cv : Nat → Array Value) (ty : TypeId) (m : Nat → Option Nat) (k : Nat) (W : World) : Prop where
  X : BelX W0.heap.size bs W0 W
  s : OkIs W bs (bad k)
  b : ∀ t b, m t = some b → W0.heap.size ≤ b ∧ Blk W b (if st t < k then cv t else cz) ty
  d : ∀ t t' b, m t = some b → m t' = some b → t = t'
  n : ∀ t, m t = none → (ixOf als t).isSome = true → k ≤ st t
  a : ∀ t, (m t).isSome = true → (ixOf als t).isSome = true
section
variable {P : Program} {W0 : World} {bs : Nat} {bad : Nat → Bool} {als : List (Nat × Nat)} {st : Nat → Nat} {cz : Array Value} {cv : Nat → Array Value} {ty : TypeId}
theorem oj_start (h : OkIs W0 bs (bad 0)) : OJ W0 bs bad als st cz cv ty (fun _ => none) 0 W0.drew :=
  ⟨(BelX.refl _ _ _).drew, h.drew, (fun _ _ h => nomatch h), (fun _ _ _ h => nomatch h), fun _ _ _ => Nat.zero_le _, (fun _ h => nomatch h)⟩
theorem oj_call {f : FuncId} (vs : List Value) (y : Value) {nn : Bool} {k : Nat} (hbs : bs < W0.heap.size) (hst : ∀ t, (ixOf als t).isSome = true → st t ≠ k) (hb : bad (k + 1) = (bad k || nn))
    (hC : ∀ w, OkEx w bs → BelX W0.heap.size bs W0 w → Calls P f vs.toArray w fun e w' => e = .returned y ∧ (∀ c, OkIs w bs c → OkIs w' bs (c || nn)) ∧ BelX w.heap.size bs w w') :
    ∀ m w, OJ W0 bs bad als st cz cv ty m k w → Calls P f vs.toArray w fun e w' => e = .returned y ∧ OJ W0 bs bad als st cz cv ty m (k + 1) w' := by
  intro m w h
  refine (hC w (OkEx.of h.s) h.X).mono ?_
  rintro e w' ⟨rfl, hu, hx⟩
  refine ⟨rfl, h.X.step hx h.X.size, ?_, fun t b hm => ?_, h.d, fun t hm ht => ?_, h.a⟩
  · rw [hb]; exact hu _ h.s
  · obtain ⟨h1, h2⟩ := h.b t b hm
    have hne := hst t (h.a t (by rw [hm]; rfl))
    have hlt := (Array.getElem?_eq_some_iff.1 h2).1
    refine ⟨h1, (hx.block b hlt (by omega)).trans ?_⟩
    rw [h2]
    by_cases h3 : st t < k
    · rw [if_pos h3, if_pos (by omega)]
    · rw [if_neg h3, if_neg (by omega)]
  · have := h.n t hm ht
    have := hst t ht
    omega
theorem oj_alloc {t : Nat} (ht : (ixOf als t).isSome = true) (hrun : ∀ w, (Instr.alloc ty true (.tuple #[])).run P w = .ok (.pointer (some ⟨w.heap.size, 0, none⟩)) (w.alloc (.cells cz ty))) :
    ∀ m k w, OJ W0 bs bad als st cz cv ty m k w → m t = none → ∃ b w', (Instr.alloc ty true (.tuple #[])).run P w = .ok (.pointer (some ⟨b, 0, none⟩)) w' ∧ OJ W0 bs bad als st cz cv ty (fun t' => if t' = t then some b else m t') k w' := by
  intro m k w h hm
  have hnew : ∀ t' b, m t' = some b → b < w.heap.size := fun t' b h1 => (Array.getElem?_eq_some_iff.1 (h.b t' b h1).2).1
  refine ⟨_, _, hrun w, h.X.alloc h.X.size _, h.s.alloc _, fun t' b hb => ?_, fun t1 t2 b h1 h2 => ?_, fun t' h1 h2 => ?_, fun t' h1 => ?_⟩
  · by_cases e : t' = t
    · rw [if_pos e] at hb
      obtain rfl := Option.some.inj hb
      have := h.n t hm ht
      rw [e, if_neg (by omega)]
      exact ⟨h.X.size, heap_alloc_last w _⟩
    · rw [if_neg e] at hb
      obtain ⟨g1, g2⟩ := h.b t' b hb
      exact ⟨g1, (Below.heap_alloc w _ b (hnew t' b hb)).trans g2⟩
  · by_cases e1 : t1 = t <;> by_cases e2 : t2 = t
    · rw [e1, e2]
    · rw [if_pos e1] at h1; rw [if_neg e2] at h2
      obtain rfl := Option.some.inj h1
      have := hnew _ _ h2; omega
    · rw [if_neg e1] at h1; rw [if_pos e2] at h2
      obtain rfl := Option.some.inj h2
      have := hnew _ _ h1; omega
    · rw [if_neg e1] at h1; rw [if_neg e2] at h2
      exact h.d t1 t2 b h1 h2
  · by_cases e : t' = t
    · rw [if_pos e] at h1; cases h1
    · rw [if_neg e] at h1; exact h.n t' h1 h2
  · by_cases e : t' = t
    · rw [e]; exact ht
    · rw [if_neg e] at h1; exact h.a t' h1
theorem oj_store {t k : Nat} (hbs : bs < W0.heap.size) (hst : st t = k) (hinj : ∀ t', (ixOf als t').isSome = true → st t' = k → t' = t) (hb : bad (k + 1) = bad k) (hz : cz.size = (cv t).size) (h1 : (cv t).all (·.oneCell') = true) (hi : (P.info? ty).map (·.size) = some (cv t).size) :
    ∀ m w b, OJ W0 bs bad als st cz cv ty m k w → m t = some b → ∃ w', (Instr.storeAt ty (.pointer (some ⟨b, 0, none⟩)) (.agg (cv t))).run P w = .ok () w' ∧ OJ W0 bs bad als st cz cv ty m (k + 1) w' := by
  intro m w b h hm
  obtain ⟨g1, g2⟩ := h.b t b hm
  have h0 : Blk w b cz ty := by rw [if_neg (by omega)] at g2; exact g2
  refine ⟨w.setRow b (cv t), ?_, belX_setRow h.X g1 _, ?_, fun t' b' hb' => ?_, h.d, fun t' h2 h3 => ?_, h.a⟩
  · simp only [Instr.storeAt, Instr.sureAddr, Sem.run_bind, Sem.run_pure, Result.andThen_ok]
    exact run_storeVar_row w b ty ty cz (cv t) h0 hi hz h1
  · rw [hb]; exact (setRow_far w b bs _ (by omega)).trans h.s
  · by_cases e : t' = t
    · subst e
      rw [hm] at hb'; obtain rfl := Option.some.inj hb'
      rw [if_pos (by omega)]
      exact ⟨g1, setRow_heap w b cz (cv t') ty (0, 0) h0⟩
    · obtain ⟨g3, g4⟩ := h.b t' b' hb'
      have hne : b' ≠ b := fun e2 => e (h.d t' t b (e2 ▸ hb') hm)
      have hs' : st t' ≠ k := fun e2 => e (hinj t' (h.a t' (by rw [hb']; rfl)) e2)
      refine ⟨g3, (setRow_far w b b' _ hne).trans ?_⟩
      rw [g4]
      by_cases h5 : st t' < k
      · rw [if_pos h5, if_pos (by omega)]
      · rw [if_neg h5, if_neg (by omega)]
  · have h4 := h.n t' h2 h3
    have : st t' ≠ k := fun e2 => by
      have := hinj t' h3 e2
      rw [this, hm] at h2; cases h2
    omega
end
/-- The reckoning bs and the block fb change; nothing else that was there does. fc: what fb holds, by the number of the chain. -/
structure OK (W0 : World) (bs fb : Nat) (bad : Nat → Bool) (fc : Nat → Array Value) (fty : TypeId) (k : Nat) (W : World) : Prop where
  os : W.os = W0.os
  tape : W.tape = W0.tape
  output : W.output = W0.output
  size : W0.heap.size ≤ W.heap.size
  block : ∀ b, b < W0.heap.size → b ≠ bs → b ≠ fb → W.heap[b]? = W0.heap[b]?
  s : OkIs W bs (bad k)
  c : Blk W fb (fc k) fty
/-- With one more chain of new variables left out: for regions without new variables. -/
def OKm (W0 : World) (bs fb : Nat) (bad : Nat → Bool) (fc : Nat → Array Value) (fty : TypeId) (_ : Nat → Option Nat) (k : Nat) (W : World) : Prop := OK W0 bs fb bad fc fty k W
section
variable {P : Program} {W0 : World} {bs fb : Nat} {bad : Nat → Bool} {fc : Nat → Array Value} {fty : TypeId}
theorem ok_start (hs : OkIs W0 bs (bad 0)) (hc : Blk W0 fb (fc 0) fty) : OKm W0 bs fb bad fc fty (fun _ => none) 0 W0.drew := ⟨rfl, rfl, rfl, Nat.le_refl _, fun _ _ _ _ => rfl, hs, hc⟩
theorem OK.below {B : Nat} {w W : World} {k : Nat} (h : OK W0 bs fb bad fc fty k W) (hb : Below B w W0) (h1 : B ≤ bs) (h2 : B ≤ fb) (hbs : bs < W0.heap.size) : Below B w W :=
  hb.trans ⟨h.os, h.tape, h.output, h.size, fun b hlt => h.block b (by omega) (by omega) (by omega)⟩
theorem ok_call {f : FuncId} (vs : List Value) (y : Value) {nn : Bool} {k : Nat} (hbs : bs < W0.heap.size) (hfb : fb < W0.heap.size) (hne : fb ≠ bs) (hb : bad (k + 1) = (bad k || nn)) (hf : fc (k + 1) = fc k)
    (hC : ∀ w, OkEx w bs → Calls P f vs.toArray w fun e w' => e = .returned y ∧ (∀ c, OkIs w bs c → OkIs w' bs (c || nn)) ∧ BelX w.heap.size bs w w') :
    ∀ m w, OKm W0 bs fb bad fc fty m k w → Calls P f vs.toArray w fun e w' => e = .returned y ∧ OKm W0 bs fb bad fc fty m (k + 1) w' := by
  intro m w h
  have hz := h.size
  refine (hC w (OkEx.of h.s)).mono ?_
  rintro e w' ⟨rfl, hu, hx⟩
  refine ⟨rfl, hx.os.trans h.os, hx.tape.trans h.tape, hx.output.trans h.output, Nat.le_trans hz hx.size, fun b h1 h2 h3 => (hx.block b (by omega) h2).trans (h.block b h1 h2 h3), ?_, ?_⟩
  · rw [hb]; exact hu _ h.s
  · rw [hf]; exact (hx.block fb (by omega) hne).trans h.c
theorem ok_store {k : Nat} (hne : fb ≠ bs) (hb : bad (k + 1) = bad k) (hz : (fc k).size = (fc (k + 1)).size) (h1 : (fc (k + 1)).all (·.oneCell') = true) (hi : (P.info? fty).map (·.size) = some (fc (k + 1)).size) :
    ∀ m w, OKm W0 bs fb bad fc fty m k w → ∃ w', (Instr.storeAt fty (.pointer (some ⟨fb, 0, none⟩)) (.agg (fc (k + 1)))).run P w = .ok () w' ∧ OKm W0 bs fb bad fc fty m (k + 1) w' := by
  intro m w h
  refine ⟨w.setRow fb (fc (k + 1)), ?_, h.os, h.tape, h.output, by rw [setRow_size]; exact h.size, fun b h1 h2 h3 => (setRow_far w fb b _ h3).trans (h.block b h1 h2 h3), ?_, setRow_heap w fb (fc k) _ fty (0, 0) h.c⟩
  · simp only [Instr.storeAt, Instr.sureAddr, Sem.run_bind, Sem.run_pure, Result.andThen_ok]
    exact run_storeVar_row w fb fty fty (fc k) (fc (k + 1)) h.c hi hz h1
  · rw [hb]; exact (setRow_far w fb bs _ (fun e => hne e.symm)).trans h.s
theorem ok_loadA {c : Nat} {cs : Array Value} {d : TypeDesc} (hf : ∀ k, k ≤ c → fc k = cs) (hu : P.underlying fty = some d) (hd : (match d with | .struct _ | .array _ _ => true | _ => false) = true) (hi : (P.info? fty).map (·.size) = some cs.size) :
    ∀ m k w, k ≤ c → OKm W0 bs fb bad fc fty m k w → (Instr.loadAt fty (.pointer (some ⟨fb, 0, none⟩))).run P w = .ok (.agg cs) w := by
  intro m k w hk h
  simp only [Instr.loadAt, Instr.sureAddr, Sem.run_bind, Sem.run_pure, Result.andThen_ok]
  have := h.c
  rw [hf k hk] at this
  exact run_loadVar_row w fb fty fty cs (0, 0) d this hu hd hi
theorem ok_loadF {b o : Nat} {f : Fr} (hF : FAt W0 b o f) (hlt : b < W0.heap.size) (h1 : b ≠ bs) (h2 : b ≠ fb) :
    ∀ m k w, OKm W0 bs fb bad fc fty m k w → (Instr.loadAt 25 (.pointer (some ⟨b, o, none⟩))).run Tryz.prog w = .ok (frv f) w := by
  intro m k w h
  have e := h.block b hlt h1 h2
  obtain ⟨c0, c1, c2⟩ := hF
  have d0 := (World.cell?_of_block (w := W0) (w' := w) (a := ⟨b, o, none⟩) e).trans c0
  have d1 := (World.cell?_of_block (w := W0) (w' := w) (a := ⟨b, o + 1, none⟩) e).trans c1
  have d2 := (World.cell?_of_block (w := W0) (w' := w) (a := ⟨b, o + 2, none⟩) e).trans c2
  simp [go_sem, d0, d1, d2]
end
theorem oj_loadF {W0 : World} {bs : Nat} {bad : Nat → Bool} {als : List (Nat × Nat)} {st : Nat → Nat} {cz : Array Value} {cv : Nat → Array Value} {ty : TypeId} {b o : Nat} {f : Fr} (hF : FAt W0 b o f) (hlt : b < W0.heap.size) (h1 : b ≠ bs) :
    ∀ m k w, OJ W0 bs bad als st cz cv ty m k w → (Instr.loadAt 25 (.pointer (some ⟨b, o, none⟩))).run Tryz.prog w = .ok (frv f) w := by
  intro m k w h
  have e := h.X.block b hlt h1
  obtain ⟨c0, c1, c2⟩ := hF
  have d0 := (World.cell?_of_block (w := W0) (w' := w) (a := ⟨b, o, none⟩) e).trans c0
  have d1 := (World.cell?_of_block (w := W0) (w' := w) (a := ⟨b, o + 1, none⟩) e).trans c1
  have d2 := (World.cell?_of_block (w := W0) (w' := w) (a := ⟨b, o + 2, none⟩) e).trans c2
  simp [go_sem, d0, d1, d2]
end
section
open Go.RowKit
def mfr (m : Mt) (i : Nat) : Fr := if i = 0 then m.a else if i = 1 then m.b else if i = 2 then m.c else m.d
theorem idx_at4 (b i : Nat) (h : i < 4) (w : World) : (Instr.indexAt 26 (ptv b) (iv i)).run Tryz.prog w = .ok (.pointer (some ⟨b, i * 3, none⟩)) w := by
  have hu : (Tryz.prog).underlying 26 = some (.array 4 25) := Tryz.underlying26
  have h0 : (0 : Int) ≤ (i : Int) ∧ (i : Int) < 4 := by omega
  simp [Instr.indexAt, go_sem, hu, h0, ptv, iv, h]
theorem mt_at {m : Mt} {i : Nat} {w : World} {b : Nat} (hi : i < 4) (h : Blk w b (mtc m) 36) : FAt w b (i * 3) (mfr m i) := by
  match i, hi with
  | 0, _ => exact mt_part m 0 m.a w b (fun j hj => by match j, hj with | 0, _ => rfl | 1, _ => rfl | 2, _ => rfl) h
  | 1, _ => exact mt_part m 1 m.b w b (fun j hj => by match j, hj with | 0, _ => rfl | 1, _ => rfl | 2, _ => rfl) h
  | 2, _ => exact mt_part m 2 m.c w b (fun j hj => by match j, hj with | 0, _ => rfl | 1, _ => rfl | 2, _ => rfl) h
  | 3, _ => exact mt_part m 3 m.d w b (fun j hj => by match j, hj with | 0, _ => rfl | 1, _ => rfl | 2, _ => rfl) h
noncomputable def opsT1 : List Oper := (regionAt Tryz.f111 1).toList
def rdT1 : List Nat := [0, 2, 3, 4, 5, 6, 7, 9, 16]
def vT1 (bs bm br : Nat) (i j k l : Nat) (sg : Int) (im : Bool) (m : Mt) (t : Nat) : Value := if t < 19 then nth [ptv bs, undef, iv i, iv j, .int .i64 sg, iv k, iv l, .bool im, undef, ptv bm, undef, undef, undef, undef, undef, undef, ptv br] t else nth [ptv bs, iv i, ptv bm, .pointer (some ⟨bm, i * 3, none⟩), frv (mfr m i), iv j, ptv bm, .pointer (some ⟨bm, j * 3, none⟩), frv (mfr m j), frv (pairV (mfr m i) (mfr m j))] (t - 19)
def alsT1 : List (Nat × Nat) := [(17, 10)]
def stT1 (t : Nat) : Nat := t - 16
theorem mkT1 : alsOk opsT1 alsT1 = true := by kernel_rfl
theorem lnT1 : opsT1.length = 12 ∧ callsTo opsT1 12 = 2 := ⟨by kernel_rfl, by kernel_rfl⟩
theorem okT1 : opsOk opsT1 19 rdT1 alsT1 none 0 opsT1 = true := by kernel_rfl
theorem rdltT1 : ∀ t ∈ rdT1, t < 19 ∧ ixOf alsT1 t = none := by decide
set_option maxRecDepth 100000 in
set_option maxHeartbeats 4000000 in
theorem regT1 (W0 : World) (bs bm br : Nat) (i j k l : Nat) (sg : Int) (im : Bool) (m : Mt) (bad : Bool) (hi : i < 4) (hj : j < 4) (hbs : bs < W0.heap.size) (hM : Blk W0 bm (mtc m) 36) (hlm : bm < W0.heap.size) (hnm : bm ≠ bs) :
    Obs alsT1 (vT1 bs bm br i j k l sg im m) opsT1 (OJ W0 bs (badL bad [pairN (mfr m i) (mfr m j)]) alsT1 stT1 z3c (fun _ => frc (pairV (mfr m i) (mfr m j))) 25) Tryz.prog 19 0 0 opsT1 := by
    refine obs_move (i := 0) rfl rfl rfl rfl ?_
    refine obs_move (i := 1) rfl rfl rfl rfl ?_
    refine obs_field (i := 2) rfl rfl rfl rfl (fun w => rfl) ?_
    refine obs_indexT (i := 3) rfl rfl rfl rfl rfl (idx_at4 bm i hi) ?_
    refine obs_load (i := 4) rfl rfl rfl rfl (oj_loadF (mt_at hi hM) hlm hnm) ?_
    refine obs_move (i := 5) rfl rfl rfl rfl ?_
    refine obs_field (i := 6) rfl rfl rfl rfl (fun w => rfl) ?_
    refine obs_indexT (i := 7) rfl rfl rfl rfl rfl (idx_at4 bm j hj) ?_
    refine obs_load (i := 8) rfl rfl rfl rfl (oj_loadF (mt_at hj hM) hlm hnm) ?_
    refine obs_call (i := 9) (k := 0) rfl rfl Tryz.func120 rfl rfl rfl rfl (oj_call [ptv bs, frv (mfr m i), frv (mfr m j)] (frv (pairV (mfr m i) (mfr m j))) hbs (ix_ne rfl) rfl (fun w h _ => y_pair (mfr m i) (mfr m j) bs w h)) ?_
    refine obs_alloc (i := 10) rfl rfl rfl (oj_alloc (t := 17) rfl run_allocFr) ?_
    refine obs_store (i := 11) (k := 1) rfl rfl rfl rfl rfl (oj_store (t := 17) hbs rfl (ix_inj rfl) rfl rfl (frc_one _) sz_Frac) ?_
    exact obs_nil rfl
noncomputable def opsT2 : List Oper := (regionAt Tryz.f111 2).toList
def rdT2 : List Nat := [0, 2, 3, 4, 5, 6, 7, 9, 16, 17]
def vT2 (bs bm br b17 : Nat) (i j k l : Nat) (sg : Int) (im : Bool) (m : Mt) (t : Nat) : Value := if t < 29 then nth [ptv bs, undef, iv i, iv j, .int .i64 sg, iv k, iv l, .bool im, undef, ptv bm, undef, undef, undef, undef, undef, undef, ptv br, ptv b17] t else nth [ptv bs, iv k, ptv bm, .pointer (some ⟨bm, k * 3, none⟩), frv (mfr m k), iv l, ptv bm, .pointer (some ⟨bm, l * 3, none⟩), frv (mfr m l), frv (pairV (mfr m k) (mfr m l))] (t - 29)
def alsT2 : List (Nat × Nat) := [(18, 10)]
def stT2 (t : Nat) : Nat := t - 17
theorem mkT2 : alsOk opsT2 alsT2 = true := by kernel_rfl
theorem lnT2 : opsT2.length = 12 ∧ callsTo opsT2 12 = 2 := ⟨by kernel_rfl, by kernel_rfl⟩
theorem okT2 : opsOk opsT2 29 rdT2 alsT2 none 0 opsT2 = true := by kernel_rfl
theorem rdltT2 : ∀ t ∈ rdT2, t < 29 ∧ ixOf alsT2 t = none := by decide
set_option maxRecDepth 100000 in
set_option maxHeartbeats 4000000 in
theorem regT2 (W0 : World) (bs bm br b17 : Nat) (i j k l : Nat) (sg : Int) (im : Bool) (m : Mt) (bad : Bool) (hi : k < 4) (hj : l < 4) (hbs : bs < W0.heap.size) (hM : Blk W0 bm (mtc m) 36) (hlm : bm < W0.heap.size) (hnm : bm ≠ bs) :
    Obs alsT2 (vT2 bs bm br b17 i j k l sg im m) opsT2 (OJ W0 bs (badL bad [pairN (mfr m k) (mfr m l)]) alsT2 stT2 z3c (fun _ => frc (pairV (mfr m k) (mfr m l))) 25) Tryz.prog 29 0 0 opsT2 := by
    refine obs_move (i := 0) rfl rfl rfl rfl ?_
    refine obs_move (i := 1) rfl rfl rfl rfl ?_
    refine obs_field (i := 2) rfl rfl rfl rfl (fun w => rfl) ?_
    refine obs_indexT (i := 3) rfl rfl rfl rfl rfl (idx_at4 bm k hi) ?_
    refine obs_load (i := 4) rfl rfl rfl rfl (oj_loadF (mt_at hi hM) hlm hnm) ?_
    refine obs_move (i := 5) rfl rfl rfl rfl ?_
    refine obs_field (i := 6) rfl rfl rfl rfl (fun w => rfl) ?_
    refine obs_indexT (i := 7) rfl rfl rfl rfl rfl (idx_at4 bm l hj) ?_
    refine obs_load (i := 8) rfl rfl rfl rfl (oj_loadF (mt_at hj hM) hlm hnm) ?_
    refine obs_call (i := 9) (k := 0) rfl rfl Tryz.func120 rfl rfl rfl rfl (oj_call [ptv bs, frv (mfr m k), frv (mfr m l)] (frv (pairV (mfr m k) (mfr m l))) hbs (ix_ne rfl) rfl (fun w h _ => y_pair (mfr m k) (mfr m l) bs w h)) ?_
    refine obs_alloc (i := 10) rfl rfl rfl (oj_alloc (t := 18) rfl run_allocFr) ?_
    refine obs_store (i := 11) (k := 1) rfl rfl rfl rfl rfl (oj_store (t := 18) hbs rfl (ix_inj rfl) rfl rfl (frc_one _) sz_Frac) ?_
    exact obs_nil rfl
/-- A sign as a number. -/
def sgI (p : Bool) : Int := if p then 1 else -1
theorem y_op (p : Bool) (a b : Fr) (bs : Nat) (w : World) (hs : OkEx w bs) : Calls Tryz.prog 72 [ptv bs, frv a, .int .i64 (sgI p), frv b].toArray w fun e w' => e = .returned (frv (vN (opI p a b))) ∧ (∀ c, OkIs w bs c → OkIs w' bs (c || (opI p a b).isNone)) ∧ BelX w.heap.size bs w w' := by
  cases p
  · exact y_less a b bs w hs
  · exact y_add a b bs w hs
noncomputable def opsP2 : List Oper := (regionAt Tryz.f110 2).toList
def rdP2 : List Nat := [0, 2, 3, 4, 6, 10, 11]
def vP2 (bs bm br fb : Nat) (p2 p3 p4 : Bool) (m : Mt) (acc : Fr) (t : Nat) : Value := if t < 20 then nth [ptv bs, undef, .int .i64 (sgI p2), .int .i64 (sgI p3), .int .i64 (sgI p4), undef, ptv bm, undef, undef, undef, ptv br, ptv fb] t else nth [ptv bs, frv acc, .int .i64 (sgI p2), ptv bs, ptv bm, .pointer (some ⟨bm, 1 * 3, none⟩), frv (mfr m 1), ptv bm, .pointer (some ⟨bm, 1 * 3, none⟩), frv (mfr m 1), frv (pairV (mfr m 1) (mfr m 1)), frv (vN (opI p2 acc (pairV (mfr m 1) (mfr m 1))))] (t - 20)
theorem lnP2 : opsP2.length = 13 ∧ callsTo opsP2 13 = 3 := ⟨by kernel_rfl, by kernel_rfl⟩
theorem kbP2 : kb opsP2 1 = 1 := by kernel_rfl
theorem okP2 : opsOk opsP2 20 rdP2 [] none 0 opsP2 = true := by kernel_rfl
theorem rdltP2 : ∀ t ∈ rdP2, t < 20 ∧ ixOf [] t = none := by decide
set_option maxRecDepth 100000 in
set_option maxHeartbeats 4000000 in
theorem regP2 (W0 : World) (bs bm br fb : Nat) (p2 p3 p4 : Bool) (m : Mt) (acc : Fr) (bad : Bool) (hbs : bs < W0.heap.size) (hfb : fb < W0.heap.size) (hne : fb ≠ bs) (hM : Blk W0 bm (mtc m) 36) (hlm : bm < W0.heap.size) (hnm : bm ≠ bs) (hnf : bm ≠ fb) :
    Obs [] (vP2 bs bm br fb p2 p3 p4 m acc) opsP2 (OKm W0 bs fb (badL bad [pairN (mfr m 1) (mfr m 1), (opI p2 acc (pairV (mfr m 1) (mfr m 1))).isNone]) (fc13 acc (vN (opI p2 acc (pairV (mfr m 1) (mfr m 1))))) 25) Tryz.prog 20 0 0 opsP2 := by
    have lA : ∀ mm kk w, kk ≤ 1 → OKm W0 bs fb (badL bad [pairN (mfr m 1) (mfr m 1), (opI p2 acc (pairV (mfr m 1) (mfr m 1))).isNone]) (fc13 acc (vN (opI p2 acc (pairV (mfr m 1) (mfr m 1))))) 25 mm kk w → (Instr.loadAt 25 (.pointer (some ⟨fb, 0, none⟩))).run Tryz.prog w = .ok (frv acc) w := ok_loadA (cs := frc acc) (fun k' hk' => if_pos (by omega)) Tryz.underlying25 rfl sz_Frac
    refine obs_move (i := 0) rfl rfl rfl rfl ?_
    refine obs_loadK (c := 1) (i := 1) rfl rfl rfl rfl kbP2 lA ?_
    refine obs_move (i := 2) rfl rfl rfl rfl ?_
    refine obs_move (i := 3) rfl rfl rfl rfl ?_
    refine obs_field (i := 4) rfl rfl rfl rfl (fun w => rfl) ?_
    refine obs_index (i := 5) rfl rfl rfl rfl (fun w => by kernel_rfl) ?_
    refine obs_load (i := 6) rfl rfl rfl rfl (ok_loadF (mt_at (by omega) hM) hlm hnm hnf) ?_
    refine obs_field (i := 7) rfl rfl rfl rfl (fun w => rfl) ?_
    refine obs_index (i := 8) rfl rfl rfl rfl (fun w => by kernel_rfl) ?_
    refine obs_load (i := 9) rfl rfl rfl rfl (ok_loadF (mt_at (by omega) hM) hlm hnm hnf) ?_
    refine obs_call (i := 10) (k := 0) rfl rfl Tryz.func120 rfl rfl rfl rfl (ok_call [ptv bs, frv (mfr m 1), frv (mfr m 1)] (frv (pairV (mfr m 1) (mfr m 1))) hbs hfb hne rfl rfl (fun w h => y_pair (mfr m 1) (mfr m 1) bs w h)) ?_
    refine obs_call (i := 11) (k := 1) rfl rfl Tryz.func72 rfl rfl rfl rfl (ok_call [ptv bs, frv acc, .int .i64 (sgI p2), frv (pairV (mfr m 1) (mfr m 1))] (frv (vN (opI p2 acc (pairV (mfr m 1) (mfr m 1))))) hbs hfb hne rfl rfl (fun w h => y_op p2 acc (pairV (mfr m 1) (mfr m 1)) bs w h)) ?_
    refine obs_storeF (i := 12) (k := 2) rfl rfl rfl rfl rfl rfl (ok_store hne rfl rfl (frc_one _) sz_Frac) ?_
    exact obs_nil rfl
noncomputable def opsP3 : List Oper := (regionAt Tryz.f110 3).toList
def rdP3 : List Nat := [0, 2, 3, 4, 6, 10, 11]
def vP3 (bs bm br fb : Nat) (p2 p3 p4 : Bool) (m : Mt) (acc : Fr) (t : Nat) : Value := if t < 32 then nth [ptv bs, undef, .int .i64 (sgI p2), .int .i64 (sgI p3), .int .i64 (sgI p4), undef, ptv bm, undef, undef, undef, ptv br, ptv fb] t else nth [ptv bs, frv acc, .int .i64 (sgI p3), ptv bs, ptv bm, .pointer (some ⟨bm, 2 * 3, none⟩), frv (mfr m 2), ptv bm, .pointer (some ⟨bm, 2 * 3, none⟩), frv (mfr m 2), frv (pairV (mfr m 2) (mfr m 2)), frv (vN (opI p3 acc (pairV (mfr m 2) (mfr m 2))))] (t - 32)
theorem lnP3 : opsP3.length = 13 ∧ callsTo opsP3 13 = 3 := ⟨by kernel_rfl, by kernel_rfl⟩
theorem kbP3 : kb opsP3 1 = 1 := by kernel_rfl
theorem okP3 : opsOk opsP3 32 rdP3 [] none 0 opsP3 = true := by kernel_rfl
theorem rdltP3 : ∀ t ∈ rdP3, t < 32 ∧ ixOf [] t = none := by decide
set_option maxRecDepth 100000 in
set_option maxHeartbeats 4000000 in
theorem regP3 (W0 : World) (bs bm br fb : Nat) (p2 p3 p4 : Bool) (m : Mt) (acc : Fr) (bad : Bool) (hbs : bs < W0.heap.size) (hfb : fb < W0.heap.size) (hne : fb ≠ bs) (hM : Blk W0 bm (mtc m) 36) (hlm : bm < W0.heap.size) (hnm : bm ≠ bs) (hnf : bm ≠ fb) :
    Obs [] (vP3 bs bm br fb p2 p3 p4 m acc) opsP3 (OKm W0 bs fb (badL bad [pairN (mfr m 2) (mfr m 2), (opI p3 acc (pairV (mfr m 2) (mfr m 2))).isNone]) (fc13 acc (vN (opI p3 acc (pairV (mfr m 2) (mfr m 2))))) 25) Tryz.prog 32 0 0 opsP3 := by
    have lA : ∀ mm kk w, kk ≤ 1 → OKm W0 bs fb (badL bad [pairN (mfr m 2) (mfr m 2), (opI p3 acc (pairV (mfr m 2) (mfr m 2))).isNone]) (fc13 acc (vN (opI p3 acc (pairV (mfr m 2) (mfr m 2))))) 25 mm kk w → (Instr.loadAt 25 (.pointer (some ⟨fb, 0, none⟩))).run Tryz.prog w = .ok (frv acc) w := ok_loadA (cs := frc acc) (fun k' hk' => if_pos (by omega)) Tryz.underlying25 rfl sz_Frac
    refine obs_move (i := 0) rfl rfl rfl rfl ?_
    refine obs_loadK (c := 1) (i := 1) rfl rfl rfl rfl kbP3 lA ?_
    refine obs_move (i := 2) rfl rfl rfl rfl ?_
    refine obs_move (i := 3) rfl rfl rfl rfl ?_
    refine obs_field (i := 4) rfl rfl rfl rfl (fun w => rfl) ?_
    refine obs_index (i := 5) rfl rfl rfl rfl (fun w => by kernel_rfl) ?_
    refine obs_load (i := 6) rfl rfl rfl rfl (ok_loadF (mt_at (by omega) hM) hlm hnm hnf) ?_
    refine obs_field (i := 7) rfl rfl rfl rfl (fun w => rfl) ?_
    refine obs_index (i := 8) rfl rfl rfl rfl (fun w => by kernel_rfl) ?_
    refine obs_load (i := 9) rfl rfl rfl rfl (ok_loadF (mt_at (by omega) hM) hlm hnm hnf) ?_
    refine obs_call (i := 10) (k := 0) rfl rfl Tryz.func120 rfl rfl rfl rfl (ok_call [ptv bs, frv (mfr m 2), frv (mfr m 2)] (frv (pairV (mfr m 2) (mfr m 2))) hbs hfb hne rfl rfl (fun w h => y_pair (mfr m 2) (mfr m 2) bs w h)) ?_
    refine obs_call (i := 11) (k := 1) rfl rfl Tryz.func72 rfl rfl rfl rfl (ok_call [ptv bs, frv acc, .int .i64 (sgI p3), frv (pairV (mfr m 2) (mfr m 2))] (frv (vN (opI p3 acc (pairV (mfr m 2) (mfr m 2))))) hbs hfb hne rfl rfl (fun w h => y_op p3 acc (pairV (mfr m 2) (mfr m 2)) bs w h)) ?_
    refine obs_storeF (i := 12) (k := 2) rfl rfl rfl rfl rfl rfl (ok_store hne rfl rfl (frc_one _) sz_Frac) ?_
    exact obs_nil rfl
noncomputable def opsP4 : List Oper := (regionAt Tryz.f110 4).toList
def rdP4 : List Nat := [0, 2, 3, 4, 6, 10, 11]
def vP4 (bs bm br fb : Nat) (p2 p3 p4 : Bool) (m : Mt) (acc : Fr) (t : Nat) : Value := if t < 44 then nth [ptv bs, undef, .int .i64 (sgI p2), .int .i64 (sgI p3), .int .i64 (sgI p4), undef, ptv bm, undef, undef, undef, ptv br, ptv fb] t else nth [ptv bs, frv acc, .int .i64 (sgI p4), ptv bs, ptv bm, .pointer (some ⟨bm, 3 * 3, none⟩), frv (mfr m 3), ptv bm, .pointer (some ⟨bm, 3 * 3, none⟩), frv (mfr m 3), frv (pairV (mfr m 3) (mfr m 3)), frv (vN (opI p4 acc (pairV (mfr m 3) (mfr m 3))))] (t - 44)
theorem lnP4 : opsP4.length = 13 ∧ callsTo opsP4 13 = 3 := ⟨by kernel_rfl, by kernel_rfl⟩
theorem kbP4 : kb opsP4 1 = 1 := by kernel_rfl
theorem okP4 : opsOk opsP4 44 rdP4 [] none 0 opsP4 = true := by kernel_rfl
theorem rdltP4 : ∀ t ∈ rdP4, t < 44 ∧ ixOf [] t = none := by decide
set_option maxRecDepth 100000 in
set_option maxHeartbeats 4000000 in
theorem regP4 (W0 : World) (bs bm br fb : Nat) (p2 p3 p4 : Bool) (m : Mt) (acc : Fr) (bad : Bool) (hbs : bs < W0.heap.size) (hfb : fb < W0.heap.size) (hne : fb ≠ bs) (hM : Blk W0 bm (mtc m) 36) (hlm : bm < W0.heap.size) (hnm : bm ≠ bs) (hnf : bm ≠ fb) :
    Obs [] (vP4 bs bm br fb p2 p3 p4 m acc) opsP4 (OKm W0 bs fb (badL bad [pairN (mfr m 3) (mfr m 3), (opI p4 acc (pairV (mfr m 3) (mfr m 3))).isNone]) (fc13 acc (vN (opI p4 acc (pairV (mfr m 3) (mfr m 3))))) 25) Tryz.prog 44 0 0 opsP4 := by
    have lA : ∀ mm kk w, kk ≤ 1 → OKm W0 bs fb (badL bad [pairN (mfr m 3) (mfr m 3), (opI p4 acc (pairV (mfr m 3) (mfr m 3))).isNone]) (fc13 acc (vN (opI p4 acc (pairV (mfr m 3) (mfr m 3))))) 25 mm kk w → (Instr.loadAt 25 (.pointer (some ⟨fb, 0, none⟩))).run Tryz.prog w = .ok (frv acc) w := ok_loadA (cs := frc acc) (fun k' hk' => if_pos (by omega)) Tryz.underlying25 rfl sz_Frac
    refine obs_move (i := 0) rfl rfl rfl rfl ?_
    refine obs_loadK (c := 1) (i := 1) rfl rfl rfl rfl kbP4 lA ?_
    refine obs_move (i := 2) rfl rfl rfl rfl ?_
    refine obs_move (i := 3) rfl rfl rfl rfl ?_
    refine obs_field (i := 4) rfl rfl rfl rfl (fun w => rfl) ?_
    refine obs_index (i := 5) rfl rfl rfl rfl (fun w => by kernel_rfl) ?_
    refine obs_load (i := 6) rfl rfl rfl rfl (ok_loadF (mt_at (by omega) hM) hlm hnm hnf) ?_
    refine obs_field (i := 7) rfl rfl rfl rfl (fun w => rfl) ?_
    refine obs_index (i := 8) rfl rfl rfl rfl (fun w => by kernel_rfl) ?_
    refine obs_load (i := 9) rfl rfl rfl rfl (ok_loadF (mt_at (by omega) hM) hlm hnm hnf) ?_
    refine obs_call (i := 10) (k := 0) rfl rfl Tryz.func120 rfl rfl rfl rfl (ok_call [ptv bs, frv (mfr m 3), frv (mfr m 3)] (frv (pairV (mfr m 3) (mfr m 3))) hbs hfb hne rfl rfl (fun w h => y_pair (mfr m 3) (mfr m 3) bs w h)) ?_
    refine obs_call (i := 11) (k := 1) rfl rfl Tryz.func72 rfl rfl rfl rfl (ok_call [ptv bs, frv acc, .int .i64 (sgI p4), frv (pairV (mfr m 3) (mfr m 3))] (frv (vN (opI p4 acc (pairV (mfr m 3) (mfr m 3))))) hbs hfb hne rfl rfl (fun w h => y_op p4 acc (pairV (mfr m 3) (mfr m 3)) bs w h)) ?_
    refine obs_storeF (i := 12) (k := 2) rfl rfl rfl rfl rfl rfl (ok_store hne rfl rfl (frc_one _) sz_Frac) ?_
    exact obs_nil rfl
end
section
open Go.RowKit
attribute [local go_sem ↓] Go.wp_at_zero Go.wp_at_succ
structure QW (w : World) (bs : Nat) (bl : List (Nat × Array Value × TypeId)) (bad : Bool) (W : World) : Prop where
  X : BelX w.heap.size bs w W
  s : OkIs W bs bad
  g : ∀ q ∈ bl, w.heap.size ≤ q.1 ∧ Blk W q.1 q.2.1 q.2.2
section
variable {w W W' : World} {bs : Nat} {bl : List (Nat × Array Value × TypeId)} {bad bad' : Bool}
theorem QW.step (h : QW w bs bl bad W) (hbs : bs < w.heap.size) (Y : BelX W.heap.size bs W W') (s : OkIs W' bs bad') : QW w bs bl bad' W' :=
  ⟨h.X.step Y h.X.size, s, fun q hq => ⟨(h.g q hq).1, (Y.block q.1 (Array.getElem?_eq_some_iff.1 (h.g q hq).2).1 (by have := (h.g q hq).1; omega)).trans (h.g q hq).2⟩⟩
theorem QW.more (h : QW w bs bl bad W) {b : Nat} {cs : Array Value} {ty : TypeId} (hb : w.heap.size ≤ b) (hc : Blk W b cs ty) : QW w bs (bl ++ [(b, cs, ty)]) bad W :=
  ⟨h.X, h.s, fun q hq => by
    rcases List.mem_append.1 hq with h1 | h1
    · exact h.g q h1
    · simp at h1; subst h1; exact ⟨hb, hc⟩⟩
theorem QW.at (h : QW w bs bl bad W) {b : Nat} {cs : Array Value} {ty : TypeId} (hq : (b, cs, ty) ∈ bl) : Blk W b cs ty := (h.g _ hq).2
theorem QW.lt (h : QW w bs bl bad W) {b : Nat} {cs : Array Value} {ty : TypeId} (hq : (b, cs, ty) ∈ bl) : b < W.heap.size := (Array.getElem?_eq_some_iff.1 (h.g _ hq).2).1
end
theorem y_ts (p : Bool) (x y u v : Fr) (bs : Nat) (w : World) (hs : OkEx w bs) : Calls Tryz.prog 72 #[.pointer (some ⟨bs, 0, none⟩), frv (pairV x y), .int .i64 (sgI p), frv (pairV u v)] w fun e w' => e = .returned (frv (tsx p x y u v)) ∧ (∀ c, OkIs w bs c → OkIs w' bs (c || tsn p x y u v)) ∧ BelX w.heap.size bs w w' := y_op p (pairV x y) (pairV u v) bs w hs
theorem blk_free {W : World} {ty : TypeId} {b : Nat} {cs : Array Value} (h : Blk W b cs ty) (o : Nat) : W.frozen? ⟨b, o, none⟩ = false := by simp [World.frozen?, h]
theorem op_den (p : Bool) (a b : Fr) : 0 ≤ (vN (opI p a b)).den ∧ (vN (opI p a b)).den ≤ 2000000000 := by
  cases h : opI p a b with
  | none => exact ⟨by decide, by decide⟩
  | some f => have := fvalid_bd f (op_valid h); simp only [vN, Option.getD_some]; omega
theorem tsx_den (p : Bool) (x y u v : Fr) : 0 ≤ (tsx p x y u v).den ∧ (tsx p x y u v).den ≤ 2000000000 := op_den p (pairV x y) (pairV u v)
set_option maxRecDepth 100000 in
set_option maxHeartbeats 8000000 in
theorem y_two0 (m : Mt) (i j k l : Nat) (p im : Bool) (bs : Nat) (bad : Bool) (w : World) (hs : OkIs w bs bad) (hi : i < 4) (hj : j < 4) (hk : k < 4) (hl : l < 4) :
    Calls Tryz.prog 111 #[.pointer (some ⟨bs, 0, none⟩), mtv m, .int .i64 i, .int .i64 j, .int .i64 (sgI p), .int .i64 k, .int .i64 l, .bool im] w fun e w' => e = .returned (frv (twoS im p (mfr m i) (mfr m j) (mfr m k) (mfr m l)).1) ∧ OkIs w' bs (bad || (twoS im p (mfr m i) (mfr m j) (mfr m k) (mfr m l)).2) ∧ BelX w.heap.size bs w w' := by
  have hlt := hs.lt
  go_enter Tryz.func111, Tryz.ntmps111
  obtain ⟨W1, hW1, h0⟩ : ∃ W, W = ((w.alloc (.cells #[.int .i64 m.a.re, .int .i64 m.a.im, .int .i64 m.a.den, .int .i64 m.b.re, .int .i64 m.b.im, .int .i64 m.b.den, .int .i64 m.c.re, .int .i64 m.c.im, .int .i64 m.c.den, .int .i64 m.d.re, .int .i64 m.d.im, .int .i64 m.d.den] 36)).alloc (.cells #[.int .i64 0, .int .i64 0, .int .i64 0] 25)) ∧ QW w bs [(w.heap.size, mtc m, 36), (w.heap.size + 1, z3c, 25)] bad W := by
    refine ⟨_, rfl, ((BelX.refl _ _ _).alloc (Nat.le_refl _) _).alloc (by simp) _, (hs.alloc _).alloc _, fun q hq => ?_⟩
    simp only [List.mem_cons, List.not_mem_nil, or_false] at hq
    rcases hq with rfl | rfl
    · exact ⟨Nat.le_refl _, (Below.heap_alloc _ _ _ (by simp)).trans (heap_alloc_last w _)⟩
    · refine ⟨by simp, ?_⟩
      have := heap_alloc_last (w.alloc (.cells #[.int .i64 m.a.re, .int .i64 m.a.im, .int .i64 m.a.den, .int .i64 m.b.re, .int .i64 m.b.im, .int .i64 m.b.den, .int .i64 m.c.re, .int .i64 m.c.im, .int .i64 m.c.den, .int .i64 m.d.re, .int .i64 m.d.im, .int .i64 m.d.den] 36)) (.cells #[.int .i64 0, .int .i64 0, .int .i64 0] 25)
      rwa [World.size_alloc] at this
  go_upto_region 1 with fail
  rw [← hW1]
  clear hW1
  go_cut [0, 2, 3, 4, 5, 6, 7, 9, 16, 17] from 0 to 46 (fun s0 s2 s3 s4 s5 s6 s7 s9 s16 s17 W => s0 = .pointer (some ⟨bs, 0, none⟩) ∧ s2 = .int .i64 i ∧ s3 = .int .i64 j ∧ s4 = .int .i64 (sgI p) ∧ s5 = .int .i64 k ∧ s6 = .int .i64 l ∧ s7 = .bool im ∧ s9 = .pointer (some ⟨w.heap.size, 0, none⟩) ∧ s16 = .pointer (some ⟨w.heap.size + 1, 0, none⟩) ∧ ∃ fb : Nat, s17 = .pointer (some ⟨fb, 0, none⟩) ∧ QW w bs ([(w.heap.size, mtc m, 36), (w.heap.size + 1, z3c, 25)] ++ [(fb, frc (pairV (mfr m i) (mfr m j)), 25)]) (badL bad [pairN (mfr m i) (mfr m j)] 2) W)
  case first =>
    rename_i J K' hJ hK
    refine region_sim (als := alsT1) (rd := rdT1) (V := vT1 bs w.heap.size (w.heap.size + 1) i j k l (sgI p) im m) (J := OJ W1 bs (badL bad [pairN (mfr m i) (mfr m j)]) alsT1 stT1 z3c (fun _ => frc (pairV (mfr m i) (mfr m j))) 25) (base := 19) (L := opsT1) mixO (by kernel_rfl) (ix_lt rfl) okT1 (regT1 W1 bs w.heap.size (w.heap.size + 1) i j k l (sgI p) im m bad hi hj h0.s.lt (h0.at (by simp)) (h0.lt (cs := mtc m) (ty := 36) (by simp)) (by omega)) ?_ (by rw [lnT1.1]; simp) ?_ (oj_start h0.s)
    · intro mm a' W hJW hmade hsz hkeep hlow hup hal
      rw [lnT1.1, lnT1.2] at hJW
      have hmd := made_of mkT1 hmade
      have lw : ∀ t ∈ rdT1, a'.eval (.tmp t) = vT1 bs w.heap.size (w.heap.size + 1) i j k l (sgI p) im m t := fun t ht => hlow t (rdltT1 t ht).1 (rdltT1 t ht).2 (by simpa using ht)
      obtain ⟨fb, ef⟩ := hmd (17, 10) (by simp [alsT1])
      obtain ⟨gf, kf⟩ := hJW.b 17 fb ef
      have lf := hal 17 fb rfl ef
      have z0 := h0.X.size
      have hQ := (h0.step hlt hJW.X hJW.s).more (b := fb) (cs := frc (pairV (mfr m i) (mfr m j))) (ty := 25) (by omega) kf
      exact hK _ _ (Met.intro (hJ _ _ ⟨a'.eval (.tmp 0), a'.eval (.tmp 1), a'.eval (.tmp 2), a'.eval (.tmp 3), a'.eval (.tmp 4), a'.eval (.tmp 5), a'.eval (.tmp 6), a'.eval (.tmp 7), a'.eval (.tmp 8), a'.eval (.tmp 9), a'.eval (.tmp 10), a'.eval (.tmp 11), a'.eval (.tmp 12), a'.eval (.tmp 13), a'.eval (.tmp 14), a'.eval (.tmp 15), a'.eval (.tmp 16), a'.eval (.tmp 17), a'.eval (.tmp 18), a'.eval (.tmp 19), a'.eval (.tmp 20), a'.eval (.tmp 21), a'.eval (.tmp 22), a'.eval (.tmp 23), a'.eval (.tmp 24), a'.eval (.tmp 25), a'.eval (.tmp 26), a'.eval (.tmp 27), a'.eval (.tmp 28), a'.eval (.tmp 29), a'.eval (.tmp 30), a'.eval (.tmp 31), a'.eval (.tmp 32), a'.eval (.tmp 33), a'.eval (.tmp 34), a'.eval (.tmp 35), a'.eval (.tmp 36), a'.eval (.tmp 37), a'.eval (.tmp 38), a'.eval (.tmp 39), a'.eval (.tmp 40), a'.eval (.tmp 41), a'.eval (.tmp 42), a'.eval (.tmp 43), a'.eval (.tmp 44), a'.eval (.tmp 45), a'.eval (.tmp 46), ⟨lw 0 (by simp [rdT1]), lw 2 (by simp [rdT1]), lw 3 (by simp [rdT1]), lw 4 (by simp [rdT1]), lw 5 (by simp [rdT1]), lw 6 (by simp [rdT1]), lw 7 (by simp [rdT1]), lw 9 (by simp [rdT1]), lw 16 (by simp [rdT1]), fb, lf, hQ⟩, act_ext hkeep.2.1 hkeep.1⟩))
    · intro t ht
      simp only [rdT1, List.mem_cons, List.not_mem_nil, or_false] at ht
      rcases ht with rfl | rfl | rfl | rfl | rfl | rfl | rfl | rfl | rfl <;> rfl

  clear h0
  rename World => w2
  obtain ⟨q0, q2, q3, q4, q5, q6, q7, q9, q16, b17, q17, h1⟩ := hcut
  subst q0 q2 q3 q4 q5 q6 q7 q9 q16 q17
  go_upto_region 2 with fail
  go_cut [0, 2, 3, 4, 5, 6, 7, 9, 16, 17, 18] from 0 to 46 (fun s0 s2 s3 s4 s5 s6 s7 s9 s16 s17 s18 W => s0 = .pointer (some ⟨bs, 0, none⟩) ∧ s2 = .int .i64 i ∧ s3 = .int .i64 j ∧ s4 = .int .i64 (sgI p) ∧ s5 = .int .i64 k ∧ s6 = .int .i64 l ∧ s7 = .bool im ∧ s9 = .pointer (some ⟨w.heap.size, 0, none⟩) ∧ s16 = .pointer (some ⟨w.heap.size + 1, 0, none⟩) ∧ s17 = .pointer (some ⟨b17, 0, none⟩) ∧ ∃ fb : Nat, s18 = .pointer (some ⟨fb, 0, none⟩) ∧ QW w bs ([(w.heap.size, mtc m, 36), (w.heap.size + 1, z3c, 25)] ++ [(b17, frc (pairV (mfr m i) (mfr m j)), 25)] ++ [(fb, frc (pairV (mfr m k) (mfr m l)), 25)]) (badL (badL bad [pairN (mfr m i) (mfr m j)] 2) [pairN (mfr m k) (mfr m l)] 2) W)
  case first =>
    rename_i J K' hJ hK
    refine region_sim (als := alsT2) (rd := rdT2) (V := vT2 bs w.heap.size (w.heap.size + 1) b17 i j k l (sgI p) im m) (J := OJ w2 bs (badL (badL bad [pairN (mfr m i) (mfr m j)] 2) [pairN (mfr m k) (mfr m l)]) alsT2 stT2 z3c (fun _ => frc (pairV (mfr m k) (mfr m l))) 25) (base := 29) (L := opsT2) mixO (by kernel_rfl) (ix_lt rfl) okT2 (regT2 w2 bs w.heap.size (w.heap.size + 1) b17 i j k l (sgI p) im m (badL bad [pairN (mfr m i) (mfr m j)] 2) hk hl h1.s.lt (h1.at (by simp)) (h1.lt (cs := mtc m) (ty := 36) (by simp)) (by omega)) ?_ (by rw [lnT2.1]; simp) ?_ (oj_start h1.s)
    · intro mm a' W hJW hmade hsz hkeep hlow hup hal
      rw [lnT2.1, lnT2.2] at hJW
      have hmd := made_of mkT2 hmade
      have lw : ∀ t ∈ rdT2, a'.eval (.tmp t) = vT2 bs w.heap.size (w.heap.size + 1) b17 i j k l (sgI p) im m t := fun t ht => hlow t (rdltT2 t ht).1 (rdltT2 t ht).2 (by simpa using ht)
      obtain ⟨fb, ef⟩ := hmd (18, 10) (by simp [alsT2])
      obtain ⟨gf, kf⟩ := hJW.b 18 fb ef
      have lf := hal 18 fb rfl ef
      have z0 := h1.X.size
      have hQ := (h1.step hlt hJW.X hJW.s).more (b := fb) (cs := frc (pairV (mfr m k) (mfr m l))) (ty := 25) (by omega) kf
      exact hK _ _ (Met.intro (hJ _ _ ⟨a'.eval (.tmp 0), a'.eval (.tmp 1), a'.eval (.tmp 2), a'.eval (.tmp 3), a'.eval (.tmp 4), a'.eval (.tmp 5), a'.eval (.tmp 6), a'.eval (.tmp 7), a'.eval (.tmp 8), a'.eval (.tmp 9), a'.eval (.tmp 10), a'.eval (.tmp 11), a'.eval (.tmp 12), a'.eval (.tmp 13), a'.eval (.tmp 14), a'.eval (.tmp 15), a'.eval (.tmp 16), a'.eval (.tmp 17), a'.eval (.tmp 18), a'.eval (.tmp 19), a'.eval (.tmp 20), a'.eval (.tmp 21), a'.eval (.tmp 22), a'.eval (.tmp 23), a'.eval (.tmp 24), a'.eval (.tmp 25), a'.eval (.tmp 26), a'.eval (.tmp 27), a'.eval (.tmp 28), a'.eval (.tmp 29), a'.eval (.tmp 30), a'.eval (.tmp 31), a'.eval (.tmp 32), a'.eval (.tmp 33), a'.eval (.tmp 34), a'.eval (.tmp 35), a'.eval (.tmp 36), a'.eval (.tmp 37), a'.eval (.tmp 38), a'.eval (.tmp 39), a'.eval (.tmp 40), a'.eval (.tmp 41), a'.eval (.tmp 42), a'.eval (.tmp 43), a'.eval (.tmp 44), a'.eval (.tmp 45), a'.eval (.tmp 46), ⟨lw 0 (by simp [rdT2]), lw 2 (by simp [rdT2]), lw 3 (by simp [rdT2]), lw 4 (by simp [rdT2]), lw 5 (by simp [rdT2]), lw 6 (by simp [rdT2]), lw 7 (by simp [rdT2]), lw 9 (by simp [rdT2]), lw 16 (by simp [rdT2]), lw 17 (by simp [rdT2]), fb, lf, hQ⟩, act_ext hkeep.2.1 hkeep.1⟩))
    · intro t ht
      simp only [rdT2, List.mem_cons, List.not_mem_nil, or_false] at ht
      rcases ht with rfl | rfl | rfl | rfl | rfl | rfl | rfl | rfl | rfl | rfl <;> rfl

  clear h1
  rename World => w3
  obtain ⟨q0, q2, q3, q4, q5, q6, q7, q9, q16, q17, b18, q18, h2⟩ := hcut
  subst q0 q2 q3 q4 q5 q6 q7 q9 q16 q17 q18
  have a17 := h2.at (b := b17) (cs := frc (pairV (mfr m i) (mfr m j))) (ty := 25) (by simp)
  have a18 := h2.at (b := b18) (cs := frc (pairV (mfr m k) (mfr m l))) (ty := 25) (by simp)
  obtain ⟨c0, c1, c2⟩ := blk_fr0 a17
  obtain ⟨d0, d1, d2⟩ := blk_fr0 a18
  clear a17 a18
  obtain ⟨rv, hrv⟩ : ∃ r, vN (partS im (tsx p (mfr m i) (mfr m j) (mfr m k) (mfr m l)) 1) = r := ⟨_, rfl⟩
  have HRV := Lib.hid hrv
  clear hrv
  go_wp2_with (first | (go_at_call 72; (with_reducible refine (y_ts p (mfr m i) (mfr m j) (mfr m k) (mfr m l) bs _ (OkEx.of h2.s)).mono ?_); rintro e wa ⟨rfl, hu, hx⟩; have H3 := Lib.hid (h2.step hlt hx (hu _ h2.s)); clear hu hx) | (go_at_call 121; (with_reducible refine (y_part (tsx p (mfr m i) (mfr m j) (mfr m k) (mfr m l)) im 1 bs _ (OkEx.of H3.out.s) (.inl rfl) (tsx_den p (mfr m i) (mfr m j) (mfr m k) (mfr m l))).mono ?_); rw [HRV.out]; rintro e wb ⟨rfl, hu, hx⟩; have h4 := H3.out.step hlt hx (hu _ H3.out.s); clear hu hx; have ar := h4.at (b := w.heap.size + 1) (cs := z3c) (ty := 25) (by simp); obtain ⟨r0, r1, r2⟩ := blk_fr0 (f := zK) ar; have rf := blk_free ar; clear ar; have hs4 := h4.s; have hX4 := h4.X; clear h4))
  refine bodyPost_ret (v := frv rv) (by simp [results, Tryz.results111, go_sem, *]) rfl ⟨?_, ?_, ((hX4.setCell (by show w.heap.size ≤ w.heap.size + 1; omega) _).setCell (by show w.heap.size ≤ w.heap.size + 1; omega) _).setCell (by show w.heap.size ≤ w.heap.size + 1; omega) _⟩
  · rw [← HRV.out]; rfl
  · have e : (bad || (twoS im p (mfr m i) (mfr m j) (mfr m k) (mfr m l)).2) = ((((bad || pairN (mfr m i) (mfr m j)) || pairN (mfr m k) (mfr m l)) || tsn p (mfr m i) (mfr m j) (mfr m k) (mfr m l)) || (partS im (tsx p (mfr m i) (mfr m j) (mfr m k) (mfr m l)) 1).isNone) := by
      show (bad || (((pairN (mfr m i) (mfr m j) || pairN (mfr m k) (mfr m l)) || tsn p (mfr m i) (mfr m j) (mfr m k) (mfr m l)) || (partS im (tsx p (mfr m i) (mfr m j) (mfr m k) (mfr m l)) 1).isNone)) = _
      simp only [Bool.or_assoc]
    rw [e]
    exact ((hs4.far (p := ⟨w.heap.size + 1, 0, none⟩) (by show bs ≠ w.heap.size + 1; omega) _).far (p := ⟨w.heap.size + 1, 1, none⟩) (by show bs ≠ w.heap.size + 1; omega) _).far (p := ⟨w.heap.size + 1, 2, none⟩) (by show bs ≠ w.heap.size + 1; omega) _
end
section
open Go.RowKit
attribute [local go_sem ↓] Go.wp_at_zero Go.wp_at_succ
theorem QW.stepK {w W W' : World} {bs fb k : Nat} {bl : List (Nat × Array Value × TypeId)} {bad : Bool} {bd : Nat → Bool} {fc : Nat → Array Value} {ty : TypeId} (h : QW w bs bl bad W) (K : OK W bs fb bd fc ty k W') (hfb : w.heap.size ≤ fb ∧ bs < w.heap.size) (hq : ∀ q ∈ bl, q.1 ≠ fb) : QW w bs bl (bd k) W' := by
  have hz := h.X.size
  refine ⟨h.X.trans ⟨K.os, K.tape, K.output, K.size, fun b h1 h2 => K.block b (by omega) h2 (by omega)⟩, K.s, fun q h1 => ?_⟩
  obtain ⟨g1, g2⟩ := h.g q h1
  exact ⟨g1, (K.block q.1 (Array.getElem?_eq_some_iff.1 g2).1 (by omega) (hq q h1)).trans g2⟩
theorem px3_den (p2 p3 p4 : Bool) (A B C D : Fr) : 0 ≤ (px3 p2 p3 p4 A B C D).den ∧ (px3 p2 p3 p4 A B C D).den ≤ 2000000000 := op_den p4 (px2 p2 p3 A B C) D
set_option maxRecDepth 100000 in
set_option maxHeartbeats 8000000 in
theorem y_pow0 (m : Mt) (p2 p3 p4 : Bool) (bs : Nat) (bad : Bool) (w : World) (hs : OkIs w bs bad) :
    Calls Tryz.prog 110 #[.pointer (some ⟨bs, 0, none⟩), mtv m, .int .i64 (sgI p2), .int .i64 (sgI p3), .int .i64 (sgI p4)] w fun e w' => e = .returned (frv (powS p2 p3 p4 (mfr m 0) (mfr m 1) (mfr m 2) (mfr m 3)).1) ∧ OkIs w' bs (bad || (powS p2 p3 p4 (mfr m 0) (mfr m 1) (mfr m 2) (mfr m 3)).2) ∧ BelX w.heap.size bs w w' := by
  have hlt := hs.lt
  go_enter Tryz.func110, Tryz.ntmps110
  have h0 : QW w bs [(w.heap.size, mtc m, 36), (w.heap.size + 1, z3c, 25)] bad ((w.alloc (.cells #[.int .i64 m.a.re, .int .i64 m.a.im, .int .i64 m.a.den, .int .i64 m.b.re, .int .i64 m.b.im, .int .i64 m.b.den, .int .i64 m.c.re, .int .i64 m.c.im, .int .i64 m.c.den, .int .i64 m.d.re, .int .i64 m.d.im, .int .i64 m.d.den] 36)).alloc (.cells #[.int .i64 0, .int .i64 0, .int .i64 0] 25)) := by
    refine ⟨((BelX.refl _ _ _).alloc (Nat.le_refl _) _).alloc (by simp) _, (hs.alloc _).alloc _, fun q hq => ?_⟩
    simp only [List.mem_cons, List.not_mem_nil, or_false] at hq
    rcases hq with rfl | rfl
    · exact ⟨Nat.le_refl _, (Below.heap_alloc _ _ _ (by simp)).trans (heap_alloc_last w _)⟩
    · refine ⟨by simp, ?_⟩
      have := heap_alloc_last (w.alloc (.cells #[.int .i64 m.a.re, .int .i64 m.a.im, .int .i64 m.a.den, .int .i64 m.b.re, .int .i64 m.b.im, .int .i64 m.b.den, .int .i64 m.c.re, .int .i64 m.c.im, .int .i64 m.c.den, .int .i64 m.d.re, .int .i64 m.d.im, .int .i64 m.d.den] 36)) (.cells #[.int .i64 0, .int .i64 0, .int .i64 0] 25)
      rwa [World.size_alloc] at this
  go_upto_region 2 with (go_at_call 120; (with_reducible refine (y_pair m.a m.a bs _ (OkEx.of h0.s)).mono ?_); rintro e w1 ⟨rfl, hu, hx⟩; have H1 := Lib.hid (h0.step hlt hx (hu _ h0.s)); clear hu hx)
  obtain ⟨fb, hfb⟩ : ∃ b, b = w1.heap.size := ⟨_, rfl⟩
  obtain ⟨W2, hW2, h2, hB0⟩ : ∃ W, W = w1.alloc (.cells #[.int .i64 (pairV m.a m.a).re, .int .i64 (pairV m.a m.a).im, .int .i64 (pairV m.a m.a).den] 25) ∧ QW w bs [(w.heap.size, mtc m, 36), (w.heap.size + 1, z3c, 25)] (bad || (pairN (mfr m 0) (mfr m 0))) W ∧ Blk W fb (frc (pairV (mfr m 0) (mfr m 0))) 25 := by
    have h1 := H1.out
    refine ⟨_, rfl, h1.step hlt ((BelX.refl _ _ _).alloc (Nat.le_refl _) _) (h1.s.alloc _), ?_⟩
    rw [hfb]; exact heap_alloc_last w1 _
  have hfw : w.heap.size + 1 < fb := by
    have := H1.out.lt (b := w.heap.size + 1) (cs := z3c) (ty := 25) (by simp)
    omega
  rw [← hW2, ← hfb]
  clear hW2 hfb H1 h0
  go_upto_region 2 with fail
  go_cut [0, 2, 3, 4, 6, 10, 11] from 0 to 58 (fun s0 s2 s3 s4 s6 s10 s11 W => s0 = .pointer (some ⟨bs, 0, none⟩) ∧ s2 = .int .i64 (sgI p2) ∧ s3 = .int .i64 (sgI p3) ∧ s4 = .int .i64 (sgI p4) ∧ s6 = .pointer (some ⟨w.heap.size, 0, none⟩) ∧ s10 = .pointer (some ⟨w.heap.size + 1, 0, none⟩) ∧ s11 = .pointer (some ⟨fb, 0, none⟩) ∧ QW w bs ([(w.heap.size, mtc m, 36), (w.heap.size + 1, z3c, 25)]) ((((bad || (pairN (mfr m 0) (mfr m 0)))) || (pairN (mfr m 1) (mfr m 1))) || (opI p2 (pairV (mfr m 0) (mfr m 0)) (pairV (mfr m 1) (mfr m 1))).isNone) W ∧ Blk W fb (frc (px1 p2 (pairV (mfr m 0) (mfr m 0)) (pairV (mfr m 1) (mfr m 1)))) 25)
  case first =>
    rename_i J K' hJ hK
    refine region_sim (als := []) (rd := rdP2) (V := vP2 bs w.heap.size (w.heap.size + 1) fb p2 p3 p4 m (pairV (mfr m 0) (mfr m 0))) (J := OKm W2 bs fb (badL (bad || (pairN (mfr m 0) (mfr m 0))) [pairN (mfr m 1) (mfr m 1), (opI p2 (pairV (mfr m 0) (mfr m 0)) (pairV (mfr m 1) (mfr m 1))).isNone]) (fc13 (pairV (mfr m 0) (mfr m 0)) (px1 p2 (pairV (mfr m 0) (mfr m 0)) (pairV (mfr m 1) (mfr m 1)))) 25) (base := 20) (L := opsP2) mixO (by kernel_rfl) (by intro t h; simp [ixOf] at h) okP2 (regP2 W2 bs w.heap.size (w.heap.size + 1) fb p2 p3 p4 m (pairV (mfr m 0) (mfr m 0)) (bad || (pairN (mfr m 0) (mfr m 0))) h2.s.lt (Array.getElem?_eq_some_iff.1 hB0).1 (by omega) (h2.at (by simp)) (h2.lt (cs := mtc m) (ty := 36) (by simp)) (by omega) (by omega)) ?_ (by rw [lnP2.1]; simp) ?_ (ok_start h2.s hB0)
    · intro mm a' W hJW hmade hsz hkeep hlow hup hal
      rw [lnP2.1, lnP2.2] at hJW
      have lw : ∀ t ∈ rdP2, a'.eval (.tmp t) = vP2 bs w.heap.size (w.heap.size + 1) fb p2 p3 p4 m (pairV (mfr m 0) (mfr m 0)) t := fun t ht => hlow t (rdltP2 t ht).1 (rdltP2 t ht).2 (by simpa using ht)
      have hOK : OK W2 bs fb _ _ 25 3 W := hJW
      have hQ := h2.stepK hOK (by omega) (fun q hq => by simp only [List.mem_cons, List.not_mem_nil, or_false] at hq; rcases hq with rfl | rfl <;> (simp only; omega))
      exact hK _ _ (Met.intro (hJ _ _ ⟨a'.eval (.tmp 0), a'.eval (.tmp 1), a'.eval (.tmp 2), a'.eval (.tmp 3), a'.eval (.tmp 4), a'.eval (.tmp 5), a'.eval (.tmp 6), a'.eval (.tmp 7), a'.eval (.tmp 8), a'.eval (.tmp 9), a'.eval (.tmp 10), a'.eval (.tmp 11), a'.eval (.tmp 12), a'.eval (.tmp 13), a'.eval (.tmp 14), a'.eval (.tmp 15), a'.eval (.tmp 16), a'.eval (.tmp 17), a'.eval (.tmp 18), a'.eval (.tmp 19), a'.eval (.tmp 20), a'.eval (.tmp 21), a'.eval (.tmp 22), a'.eval (.tmp 23), a'.eval (.tmp 24), a'.eval (.tmp 25), a'.eval (.tmp 26), a'.eval (.tmp 27), a'.eval (.tmp 28), a'.eval (.tmp 29), a'.eval (.tmp 30), a'.eval (.tmp 31), a'.eval (.tmp 32), a'.eval (.tmp 33), a'.eval (.tmp 34), a'.eval (.tmp 35), a'.eval (.tmp 36), a'.eval (.tmp 37), a'.eval (.tmp 38), a'.eval (.tmp 39), a'.eval (.tmp 40), a'.eval (.tmp 41), a'.eval (.tmp 42), a'.eval (.tmp 43), a'.eval (.tmp 44), a'.eval (.tmp 45), a'.eval (.tmp 46), a'.eval (.tmp 47), a'.eval (.tmp 48), a'.eval (.tmp 49), a'.eval (.tmp 50), a'.eval (.tmp 51), a'.eval (.tmp 52), a'.eval (.tmp 53), a'.eval (.tmp 54), a'.eval (.tmp 55), a'.eval (.tmp 56), a'.eval (.tmp 57), a'.eval (.tmp 58), ⟨lw 0 (by simp [rdP2]), lw 2 (by simp [rdP2]), lw 3 (by simp [rdP2]), lw 4 (by simp [rdP2]), lw 6 (by simp [rdP2]), lw 10 (by simp [rdP2]), lw 11 (by simp [rdP2]), hQ, hOK.c⟩, act_ext hkeep.2.1 hkeep.1⟩))
    · intro t ht
      simp only [rdP2, List.mem_cons, List.not_mem_nil, or_false] at ht
      rcases ht with rfl | rfl | rfl | rfl | rfl | rfl | rfl <;> rfl
  clear h2 hB0
  rename World => x2
  obtain ⟨q0, q2, q3, q4, q6, q10, q11, h2, hB2⟩ := hcut
  subst q0 q2 q3 q4 q6 q10 q11
  go_upto_region 3 with fail
  go_cut [0, 2, 3, 4, 6, 10, 11] from 0 to 58 (fun s0 s2 s3 s4 s6 s10 s11 W => s0 = .pointer (some ⟨bs, 0, none⟩) ∧ s2 = .int .i64 (sgI p2) ∧ s3 = .int .i64 (sgI p3) ∧ s4 = .int .i64 (sgI p4) ∧ s6 = .pointer (some ⟨w.heap.size, 0, none⟩) ∧ s10 = .pointer (some ⟨w.heap.size + 1, 0, none⟩) ∧ s11 = .pointer (some ⟨fb, 0, none⟩) ∧ QW w bs ([(w.heap.size, mtc m, 36), (w.heap.size + 1, z3c, 25)]) (((((((bad || (pairN (mfr m 0) (mfr m 0)))) || (pairN (mfr m 1) (mfr m 1))) || (opI p2 (pairV (mfr m 0) (mfr m 0)) (pairV (mfr m 1) (mfr m 1))).isNone)) || (pairN (mfr m 2) (mfr m 2))) || (opI p3 (px1 p2 (pairV (mfr m 0) (mfr m 0)) (pairV (mfr m 1) (mfr m 1))) (pairV (mfr m 2) (mfr m 2))).isNone) W ∧ Blk W fb (frc (px2 p2 p3 (pairV (mfr m 0) (mfr m 0)) (pairV (mfr m 1) (mfr m 1)) (pairV (mfr m 2) (mfr m 2)))) 25)
  case first =>
    rename_i J K' hJ hK
    refine region_sim (als := []) (rd := rdP3) (V := vP3 bs w.heap.size (w.heap.size + 1) fb p2 p3 p4 m (px1 p2 (pairV (mfr m 0) (mfr m 0)) (pairV (mfr m 1) (mfr m 1)))) (J := OKm x2 bs fb (badL ((((bad || (pairN (mfr m 0) (mfr m 0)))) || (pairN (mfr m 1) (mfr m 1))) || (opI p2 (pairV (mfr m 0) (mfr m 0)) (pairV (mfr m 1) (mfr m 1))).isNone) [pairN (mfr m 2) (mfr m 2), (opI p3 (px1 p2 (pairV (mfr m 0) (mfr m 0)) (pairV (mfr m 1) (mfr m 1))) (pairV (mfr m 2) (mfr m 2))).isNone]) (fc13 (px1 p2 (pairV (mfr m 0) (mfr m 0)) (pairV (mfr m 1) (mfr m 1))) (px2 p2 p3 (pairV (mfr m 0) (mfr m 0)) (pairV (mfr m 1) (mfr m 1)) (pairV (mfr m 2) (mfr m 2)))) 25) (base := 32) (L := opsP3) mixO (by kernel_rfl) (by intro t h; simp [ixOf] at h) okP3 (regP3 x2 bs w.heap.size (w.heap.size + 1) fb p2 p3 p4 m (px1 p2 (pairV (mfr m 0) (mfr m 0)) (pairV (mfr m 1) (mfr m 1))) ((((bad || (pairN (mfr m 0) (mfr m 0)))) || (pairN (mfr m 1) (mfr m 1))) || (opI p2 (pairV (mfr m 0) (mfr m 0)) (pairV (mfr m 1) (mfr m 1))).isNone) h2.s.lt (Array.getElem?_eq_some_iff.1 hB2).1 (by omega) (h2.at (by simp)) (h2.lt (cs := mtc m) (ty := 36) (by simp)) (by omega) (by omega)) ?_ (by rw [lnP3.1]; simp) ?_ (ok_start h2.s hB2)
    · intro mm a' W hJW hmade hsz hkeep hlow hup hal
      rw [lnP3.1, lnP3.2] at hJW
      have lw : ∀ t ∈ rdP3, a'.eval (.tmp t) = vP3 bs w.heap.size (w.heap.size + 1) fb p2 p3 p4 m (px1 p2 (pairV (mfr m 0) (mfr m 0)) (pairV (mfr m 1) (mfr m 1))) t := fun t ht => hlow t (rdltP3 t ht).1 (rdltP3 t ht).2 (by simpa using ht)
      have hOK : OK x2 bs fb _ _ 25 3 W := hJW
      have hQ := h2.stepK hOK (by omega) (fun q hq => by simp only [List.mem_cons, List.not_mem_nil, or_false] at hq; rcases hq with rfl | rfl <;> (simp only; omega))
      exact hK _ _ (Met.intro (hJ _ _ ⟨a'.eval (.tmp 0), a'.eval (.tmp 1), a'.eval (.tmp 2), a'.eval (.tmp 3), a'.eval (.tmp 4), a'.eval (.tmp 5), a'.eval (.tmp 6), a'.eval (.tmp 7), a'.eval (.tmp 8), a'.eval (.tmp 9), a'.eval (.tmp 10), a'.eval (.tmp 11), a'.eval (.tmp 12), a'.eval (.tmp 13), a'.eval (.tmp 14), a'.eval (.tmp 15), a'.eval (.tmp 16), a'.eval (.tmp 17), a'.eval (.tmp 18), a'.eval (.tmp 19), a'.eval (.tmp 20), a'.eval (.tmp 21), a'.eval (.tmp 22), a'.eval (.tmp 23), a'.eval (.tmp 24), a'.eval (.tmp 25), a'.eval (.tmp 26), a'.eval (.tmp 27), a'.eval (.tmp 28), a'.eval (.tmp 29), a'.eval (.tmp 30), a'.eval (.tmp 31), a'.eval (.tmp 32), a'.eval (.tmp 33), a'.eval (.tmp 34), a'.eval (.tmp 35), a'.eval (.tmp 36), a'.eval (.tmp 37), a'.eval (.tmp 38), a'.eval (.tmp 39), a'.eval (.tmp 40), a'.eval (.tmp 41), a'.eval (.tmp 42), a'.eval (.tmp 43), a'.eval (.tmp 44), a'.eval (.tmp 45), a'.eval (.tmp 46), a'.eval (.tmp 47), a'.eval (.tmp 48), a'.eval (.tmp 49), a'.eval (.tmp 50), a'.eval (.tmp 51), a'.eval (.tmp 52), a'.eval (.tmp 53), a'.eval (.tmp 54), a'.eval (.tmp 55), a'.eval (.tmp 56), a'.eval (.tmp 57), a'.eval (.tmp 58), ⟨lw 0 (by simp [rdP3]), lw 2 (by simp [rdP3]), lw 3 (by simp [rdP3]), lw 4 (by simp [rdP3]), lw 6 (by simp [rdP3]), lw 10 (by simp [rdP3]), lw 11 (by simp [rdP3]), hQ, hOK.c⟩, act_ext hkeep.2.1 hkeep.1⟩))
    · intro t ht
      simp only [rdP3, List.mem_cons, List.not_mem_nil, or_false] at ht
      rcases ht with rfl | rfl | rfl | rfl | rfl | rfl | rfl <;> rfl
  clear h2 hB2
  rename World => x3
  obtain ⟨q0, q2, q3, q4, q6, q10, q11, h3, hB3⟩ := hcut
  subst q0 q2 q3 q4 q6 q10 q11
  go_upto_region 4 with fail
  go_cut [0, 2, 3, 4, 6, 10, 11] from 0 to 58 (fun s0 s2 s3 s4 s6 s10 s11 W => s0 = .pointer (some ⟨bs, 0, none⟩) ∧ s2 = .int .i64 (sgI p2) ∧ s3 = .int .i64 (sgI p3) ∧ s4 = .int .i64 (sgI p4) ∧ s6 = .pointer (some ⟨w.heap.size, 0, none⟩) ∧ s10 = .pointer (some ⟨w.heap.size + 1, 0, none⟩) ∧ s11 = .pointer (some ⟨fb, 0, none⟩) ∧ QW w bs ([(w.heap.size, mtc m, 36), (w.heap.size + 1, z3c, 25)]) ((((((((((bad || (pairN (mfr m 0) (mfr m 0)))) || (pairN (mfr m 1) (mfr m 1))) || (opI p2 (pairV (mfr m 0) (mfr m 0)) (pairV (mfr m 1) (mfr m 1))).isNone)) || (pairN (mfr m 2) (mfr m 2))) || (opI p3 (px1 p2 (pairV (mfr m 0) (mfr m 0)) (pairV (mfr m 1) (mfr m 1))) (pairV (mfr m 2) (mfr m 2))).isNone)) || (pairN (mfr m 3) (mfr m 3))) || (opI p4 (px2 p2 p3 (pairV (mfr m 0) (mfr m 0)) (pairV (mfr m 1) (mfr m 1)) (pairV (mfr m 2) (mfr m 2))) (pairV (mfr m 3) (mfr m 3))).isNone) W ∧ Blk W fb (frc (px3 p2 p3 p4 (pairV (mfr m 0) (mfr m 0)) (pairV (mfr m 1) (mfr m 1)) (pairV (mfr m 2) (mfr m 2)) (pairV (mfr m 3) (mfr m 3)))) 25)
  case first =>
    rename_i J K' hJ hK
    refine region_sim (als := []) (rd := rdP4) (V := vP4 bs w.heap.size (w.heap.size + 1) fb p2 p3 p4 m (px2 p2 p3 (pairV (mfr m 0) (mfr m 0)) (pairV (mfr m 1) (mfr m 1)) (pairV (mfr m 2) (mfr m 2)))) (J := OKm x3 bs fb (badL (((((((bad || (pairN (mfr m 0) (mfr m 0)))) || (pairN (mfr m 1) (mfr m 1))) || (opI p2 (pairV (mfr m 0) (mfr m 0)) (pairV (mfr m 1) (mfr m 1))).isNone)) || (pairN (mfr m 2) (mfr m 2))) || (opI p3 (px1 p2 (pairV (mfr m 0) (mfr m 0)) (pairV (mfr m 1) (mfr m 1))) (pairV (mfr m 2) (mfr m 2))).isNone) [pairN (mfr m 3) (mfr m 3), (opI p4 (px2 p2 p3 (pairV (mfr m 0) (mfr m 0)) (pairV (mfr m 1) (mfr m 1)) (pairV (mfr m 2) (mfr m 2))) (pairV (mfr m 3) (mfr m 3))).isNone]) (fc13 (px2 p2 p3 (pairV (mfr m 0) (mfr m 0)) (pairV (mfr m 1) (mfr m 1)) (pairV (mfr m 2) (mfr m 2))) (px3 p2 p3 p4 (pairV (mfr m 0) (mfr m 0)) (pairV (mfr m 1) (mfr m 1)) (pairV (mfr m 2) (mfr m 2)) (pairV (mfr m 3) (mfr m 3)))) 25) (base := 44) (L := opsP4) mixO (by kernel_rfl) (by intro t h; simp [ixOf] at h) okP4 (regP4 x3 bs w.heap.size (w.heap.size + 1) fb p2 p3 p4 m (px2 p2 p3 (pairV (mfr m 0) (mfr m 0)) (pairV (mfr m 1) (mfr m 1)) (pairV (mfr m 2) (mfr m 2))) (((((((bad || (pairN (mfr m 0) (mfr m 0)))) || (pairN (mfr m 1) (mfr m 1))) || (opI p2 (pairV (mfr m 0) (mfr m 0)) (pairV (mfr m 1) (mfr m 1))).isNone)) || (pairN (mfr m 2) (mfr m 2))) || (opI p3 (px1 p2 (pairV (mfr m 0) (mfr m 0)) (pairV (mfr m 1) (mfr m 1))) (pairV (mfr m 2) (mfr m 2))).isNone) h3.s.lt (Array.getElem?_eq_some_iff.1 hB3).1 (by omega) (h3.at (by simp)) (h3.lt (cs := mtc m) (ty := 36) (by simp)) (by omega) (by omega)) ?_ (by rw [lnP4.1]; simp) ?_ (ok_start h3.s hB3)
    · intro mm a' W hJW hmade hsz hkeep hlow hup hal
      rw [lnP4.1, lnP4.2] at hJW
      have lw : ∀ t ∈ rdP4, a'.eval (.tmp t) = vP4 bs w.heap.size (w.heap.size + 1) fb p2 p3 p4 m (px2 p2 p3 (pairV (mfr m 0) (mfr m 0)) (pairV (mfr m 1) (mfr m 1)) (pairV (mfr m 2) (mfr m 2))) t := fun t ht => hlow t (rdltP4 t ht).1 (rdltP4 t ht).2 (by simpa using ht)
      have hOK : OK x3 bs fb _ _ 25 3 W := hJW
      have hQ := h3.stepK hOK (by omega) (fun q hq => by simp only [List.mem_cons, List.not_mem_nil, or_false] at hq; rcases hq with rfl | rfl <;> (simp only; omega))
      exact hK _ _ (Met.intro (hJ _ _ ⟨a'.eval (.tmp 0), a'.eval (.tmp 1), a'.eval (.tmp 2), a'.eval (.tmp 3), a'.eval (.tmp 4), a'.eval (.tmp 5), a'.eval (.tmp 6), a'.eval (.tmp 7), a'.eval (.tmp 8), a'.eval (.tmp 9), a'.eval (.tmp 10), a'.eval (.tmp 11), a'.eval (.tmp 12), a'.eval (.tmp 13), a'.eval (.tmp 14), a'.eval (.tmp 15), a'.eval (.tmp 16), a'.eval (.tmp 17), a'.eval (.tmp 18), a'.eval (.tmp 19), a'.eval (.tmp 20), a'.eval (.tmp 21), a'.eval (.tmp 22), a'.eval (.tmp 23), a'.eval (.tmp 24), a'.eval (.tmp 25), a'.eval (.tmp 26), a'.eval (.tmp 27), a'.eval (.tmp 28), a'.eval (.tmp 29), a'.eval (.tmp 30), a'.eval (.tmp 31), a'.eval (.tmp 32), a'.eval (.tmp 33), a'.eval (.tmp 34), a'.eval (.tmp 35), a'.eval (.tmp 36), a'.eval (.tmp 37), a'.eval (.tmp 38), a'.eval (.tmp 39), a'.eval (.tmp 40), a'.eval (.tmp 41), a'.eval (.tmp 42), a'.eval (.tmp 43), a'.eval (.tmp 44), a'.eval (.tmp 45), a'.eval (.tmp 46), a'.eval (.tmp 47), a'.eval (.tmp 48), a'.eval (.tmp 49), a'.eval (.tmp 50), a'.eval (.tmp 51), a'.eval (.tmp 52), a'.eval (.tmp 53), a'.eval (.tmp 54), a'.eval (.tmp 55), a'.eval (.tmp 56), a'.eval (.tmp 57), a'.eval (.tmp 58), ⟨lw 0 (by simp [rdP4]), lw 2 (by simp [rdP4]), lw 3 (by simp [rdP4]), lw 4 (by simp [rdP4]), lw 6 (by simp [rdP4]), lw 10 (by simp [rdP4]), lw 11 (by simp [rdP4]), hQ, hOK.c⟩, act_ext hkeep.2.1 hkeep.1⟩))
    · intro t ht
      simp only [rdP4, List.mem_cons, List.not_mem_nil, or_false] at ht
      rcases ht with rfl | rfl | rfl | rfl | rfl | rfl | rfl <;> rfl
  clear h3 hB3
  rename World => x4
  obtain ⟨q0, q2, q3, q4, q6, q10, q11, h4, hB4⟩ := hcut
  subst q0 q2 q3 q4 q6 q10 q11

  have hb5 := blk_fr0 hB4
  obtain ⟨c0, c1, c2⟩ := hb5
  obtain ⟨rv, hrv⟩ : ∃ r, vN (partS false (px3 p2 p3 p4 (pairV (mfr m 0) (mfr m 0)) (pairV (mfr m 1) (mfr m 1)) (pairV (mfr m 2) (mfr m 2)) (pairV (mfr m 3) (mfr m 3))) 2) = r := ⟨_, rfl⟩
  have HRV := Lib.hid hrv
  clear hrv hB4
  go_wp2_with (go_at_call 121; (with_reducible refine (y_part (px3 p2 p3 p4 (pairV (mfr m 0) (mfr m 0)) (pairV (mfr m 1) (mfr m 1)) (pairV (mfr m 2) (mfr m 2)) (pairV (mfr m 3) (mfr m 3))) false 2 bs _ (OkEx.of h4.s) (.inr rfl) (px3_den p2 p3 p4 (pairV (mfr m 0) (mfr m 0)) (pairV (mfr m 1) (mfr m 1)) (pairV (mfr m 2) (mfr m 2)) (pairV (mfr m 3) (mfr m 3)))).mono ?_); rw [HRV.out]; rintro e wb ⟨rfl, hu, hx⟩; have h5 := h4.step hlt hx (hu _ h4.s); clear hu hx; have ar := h5.at (b := w.heap.size + 1) (cs := z3c) (ty := 25) (by simp); obtain ⟨r0, r1, r2⟩ := blk_fr0 (f := zK) ar; have rf := blk_free ar; clear ar; have hs5 := h5.s; have hX5 := h5.X; clear h5)
  refine bodyPost_ret (v := frv rv) (by simp [results, Tryz.results110, go_sem, *]) rfl ⟨?_, ?_, ((hX5.setCell (by show w.heap.size ≤ w.heap.size + 1; omega) _).setCell (by show w.heap.size ≤ w.heap.size + 1; omega) _).setCell (by show w.heap.size ≤ w.heap.size + 1; omega) _⟩
  · rw [← HRV.out]; rfl
  · have e : (bad || (powS p2 p3 p4 (mfr m 0) (mfr m 1) (mfr m 2) (mfr m 3)).2) = (((((((((((bad || (pairN (mfr m 0) (mfr m 0)))) || (pairN (mfr m 1) (mfr m 1))) || (opI p2 (pairV (mfr m 0) (mfr m 0)) (pairV (mfr m 1) (mfr m 1))).isNone)) || (pairN (mfr m 2) (mfr m 2))) || (opI p3 (px1 p2 (pairV (mfr m 0) (mfr m 0)) (pairV (mfr m 1) (mfr m 1))) (pairV (mfr m 2) (mfr m 2))).isNone)) || (pairN (mfr m 3) (mfr m 3))) || (opI p4 (px2 p2 p3 (pairV (mfr m 0) (mfr m 0)) (pairV (mfr m 1) (mfr m 1)) (pairV (mfr m 2) (mfr m 2))) (pairV (mfr m 3) (mfr m 3))).isNone) || (partS false (px3 p2 p3 p4 (pairV (mfr m 0) (mfr m 0)) (pairV (mfr m 1) (mfr m 1)) (pairV (mfr m 2) (mfr m 2)) (pairV (mfr m 3) (mfr m 3))) 2).isNone) := by
      unfold powS powR px3 px2 px1
      simp only [Bool.or_assoc]
    rw [e]
    exact ((hs5.far (p := ⟨w.heap.size + 1, 0, none⟩) (by show bs ≠ w.heap.size + 1; omega) _).far (p := ⟨w.heap.size + 1, 1, none⟩) (by show bs ≠ w.heap.size + 1; omega) _).far (p := ⟨w.heap.size + 1, 2, none⟩) (by show bs ≠ w.heap.size + 1; omega) _
end
end Go.Proofs.YtodhbkinbcemnaaGreatDoor
