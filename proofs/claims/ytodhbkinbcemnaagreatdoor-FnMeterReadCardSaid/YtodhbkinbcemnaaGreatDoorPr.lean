/-
  Texts of this claim, joined: Ti; Tj. Nothing is claimed here; the other texts of this claim use it.
-/
import Derived.Test.YtodhbkinbcemnaaGreatDoorPk
import Derived.Test.YtodhbkinbcemnaaGreatDoorPq
namespace Go.Proofs.YtodhbkinbcemnaaGreatDoor
set_option linter.unusedSimpArgs false
set_option linter.unusedVariables false
section
open Go.RowKit
theorem GZ.step {w w' : World} {B bs : Nat} (h : GZ w) (hb : BelX B bs w w') (hB : w.heap.size ≤ B) (hs : 1 < bs) : GZ w' where
  lts := by have := h.lts; have := hb.size; omega
  val := by
    obtain ⟨c0, c1, c2⟩ := h.val
    have hl := h.lts
    have e := hb.block 1 (by omega) (by omega)
    have c := fun o => World.cell?_of_block (w := w) (w' := w') (a := ⟨1, o, none⟩) e
    exact ⟨(c _).trans c0, (c _).trans c1, (c _).trans c2⟩
/-- The slots of one cell of the table: of powers, of two pairs. -/
def px1 (p2 : Bool) (A B : Fr) : Fr := vN (opI p2 A B)
def pn1 (p2 : Bool) (A B : Fr) : Bool := (opI p2 A B).isNone
def px2 (p2 p3 : Bool) (A B C : Fr) : Fr := vN (opI p3 (px1 p2 A B) C)
def pn2 (p2 p3 : Bool) (A B C : Fr) : Bool := (opI p3 (px1 p2 A B) C).isNone
def px3 (p2 p3 p4 : Bool) (A B C D : Fr) : Fr := vN (opI p4 (px2 p2 p3 A B C) D)
def pn3 (p2 p3 p4 : Bool) (A B C D : Fr) : Bool := (opI p4 (px2 p2 p3 A B C) D).isNone
def px4 (p2 p3 p4 : Bool) (A B C D : Fr) : Fr := vN (halfI (px3 p2 p3 p4 A B C D))
def pn4 (p2 p3 p4 : Bool) (A B C D : Fr) : Bool := (halfI (px3 p2 p3 p4 A B C D)).isNone
def tsx (p : Bool) (x y u v : Fr) : Fr := vN (opI p (pairV x y) (pairV u v))
def tsn (p : Bool) (x y u v : Fr) : Bool := (opI p (pairV x y) (pairV u v)).isNone
def trx (im p : Bool) (x y u v : Fr) : Fr := vN (partI im (tsx p x y u v))
def trn (im p : Bool) (x y u v : Fr) : Bool := (partI im (tsx p x y u v)).isNone
theorem px_pow (p2 p3 p4 : Bool) (A B C D : Fr) : powE p2 p3 p4 A B C D = (px4 p2 p3 p4 A B C D, ((pn1 p2 A B || pn2 p2 p3 A B C) || pn3 p2 p3 p4 A B C D) || pn4 p2 p3 p4 A B C D) := rfl
theorem tr_two (im p : Bool) (x y u v : Fr) : twoE im p x y u v = (trx im p x y u v, ((pairN x y || pairN u v) || tsn p x y u v) || trn im p x y u v) := rfl
def powSl (bs b4 : Nat) (p2 p3 p4 : Bool) (A B C D : Fr) : List Value :=
  [.func (.func 42) #[] #[ptv b4], ptv bs, ptv bs, ptv bs, frv A, frv B, frv (px1 p2 A B), frv C, frv (px2 p2 p3 A B C), frv D, frv (px3 p2 p3 p4 A B C D), frv (px4 p2 p3 p4 A B C D)]
def twoSl (bs b4 : Nat) (im p : Bool) (x y u v : Fr) : List Value :=
  [ptv bs, ptv bs, .func (.func 40) #[] #[ptv b4], frv x, frv y, frv (pairV x y), .func (.func 40) #[] #[ptv b4], frv u, frv v, frv (pairV u v), frv (tsx p x y u v), frv (trx im p x y u v)]
def entSl (bs b4 : Nat) (a b c d A B C D : Fr) : Nat → List Value
  | 0 => powSl bs b4 true true true A B C D
  | 1 => powSl bs b4 false true false A B C D
  | 2 => twoSl bs b4 false true a b c d
  | 3 => twoSl bs b4 true true b a d c
  | 4 => powSl bs b4 true false false A B C D
  | 5 => powSl bs b4 false false true A B C D
  | 6 => twoSl bs b4 false false a b c d
  | 7 => twoSl bs b4 true false b a d c
  | 8 => twoSl bs b4 false true a c b d
  | 9 => twoSl bs b4 false false a c b d
  | 10 => twoSl bs b4 false true a d b c
  | 11 => twoSl bs b4 true false b c a d
  | 12 => twoSl bs b4 true true a c b d
  | 13 => twoSl bs b4 true false a c b d
  | 14 => twoSl bs b4 true true a d b c
  | 15 => twoSl bs b4 false false a d b c
  | _ => []
def entNs (a b c d A B C D : Fr) : List Bool :=
  [pn1 true A B, pn2 true true A B C, pn3 true true true A B C D, pn4 true true true A B C D, pn1 false A B, pn2 false true A B C, pn3 false true false A B C D, pn4 false true false A B C D, pairN a b, pairN c d, tsn true a b c d, trn false true a b c d, pairN b a, pairN d c, tsn true b a d c, trn true true b a d c, pn1 true A B, pn2 true false A B C, pn3 true false false A B C D, pn4 true false false A B C D, pn1 false A B, pn2 false false A B C, pn3 false false true A B C D, pn4 false false true A B C D, pairN a b, pairN c d, tsn false a b c d, trn false false a b c d, pairN b a, pairN d c, tsn false b a d c, trn true false b a d c, pairN a c, pairN b d, tsn true a c b d, trn false true a c b d, pairN a c, pairN b d, tsn false a c b d, trn false false a c b d, pairN a d, pairN b c, tsn true a d b c, trn false true a d b c, pairN b c, pairN a d, tsn false b c a d, trn true false b c a d, pairN a c, pairN b d, tsn true a c b d, trn true true a c b d, pairN a c, pairN b d, tsn false a c b d, trn true false a c b d, pairN a d, pairN b c, tsn true a d b c, trn true true a d b c, pairN a d, pairN b c, tsn false a d b c, trn false false a d b c]
def entR (a b c d A B C D : Fr) : List Fr :=
  [px4 true true true A B C D, px4 false true false A B C D, trx false true a b c d, trx true true b a d c, px4 true false false A B C D, px4 false false true A B C D, trx false false a b c d, trx true false b a d c, trx false true a c b d, trx false false a c b d, trx false true a d b c, trx true false b c a d, trx true true a c b d, trx true false a c b d, trx true true a d b c, trx false false a d b c]
theorem entR_eq (a b c d A B C D : Fr) : (entsI a b c d A B C D).map (·.1) = entR a b c d A B C D := by simp only [entsI, entR, px_pow, tr_two, List.map_cons, List.map_nil]
noncomputable def ops6 : List Oper := (regionAt Tryz.f12 6).toList
def rd6 : List Nat := [2, 3, 4, 5, 6, 7, 8, 9, 10, 11, 12, 13, 14]
def low6 (r b4 b5 b6 b7 b8 b9 b10 b11 b12 : Nat) : List Value := [undef, undef, ptv r, .bool false, ptv b4, ptv b5, ptv b6, ptv b7, ptv b8, ptv b9, ptv b10, ptv b11, ptv b12, .func (.func 40) #[] #[ptv b4], .func (.func 42) #[] #[ptv b4]]
def v6 (bs r b4 b5 b6 b7 b8 b9 b10 b11 b12 : Nat) (a b c d A B C D : Fr) (t : Nat) : Value :=
  if t < 47 then nth (low6 r b4 b5 b6 b7 b8 b9 b10 b11 b12) t else if t < 239 then nth (entSl bs b4 a b c d A B C D ((t - 47) / 12)) ((t - 47) % 12) else tbv (entR a b c d A B C D)
def als6 : List (Nat × Nat) := [(15, 194)]
def st6 (t : Nat) : Nat := t + 49
theorem mk6 : alsOk ops6 als6 = true := by kernel_rfl
theorem ln6 : ops6.length = 196 ∧ callsTo ops6 196 = 65 := ⟨by kernel_rfl, by kernel_rfl⟩
theorem ok6 : opsOk ops6 47 rd6 als6 none 0 ops6 = true := by kernel_rfl
theorem sz_Tab (xs : List Fr) (h : xs.length = 16) : ((Tryz.prog).info? 44).map (·.size) = some (tbc xs).size := by rw [tbc_size, h]; kernel_rfl
theorem run_allocTab (w : World) : (Instr.alloc 44 true (.tuple #[])).run Tryz.prog w = .ok (.pointer (some ⟨w.heap.size, 0, none⟩)) (w.alloc (.cells (tbc zs16) 44)) := by kernel_rfl
theorem c_px1t (A B : Fr) (bs : Nat) (w : World) (hs : SumEx w bs) : Calls Tryz.prog 45 [ptv bs, frv A, frv B].toArray w fun e w' => e = .returned (frv (px1 true A B)) ∧ (∀ c, SumIs w bs c → SumIs w' bs (c || pn1 true A B)) ∧ BelX w.heap.size bs w w' := x_add A B bs w hs
theorem c_px2t (p2 : Bool) (A B C : Fr) (bs : Nat) (w : World) (hs : SumEx w bs) : Calls Tryz.prog 45 [ptv bs, frv (px1 p2 A B), frv C].toArray w fun e w' => e = .returned (frv (px2 p2 true A B C)) ∧ (∀ c, SumIs w bs c → SumIs w' bs (c || pn2 p2 true A B C)) ∧ BelX w.heap.size bs w w' := x_add (px1 p2 A B) C bs w hs
theorem c_px3t (p2 p3 : Bool) (A B C D : Fr) (bs : Nat) (w : World) (hs : SumEx w bs) : Calls Tryz.prog 45 [ptv bs, frv (px2 p2 p3 A B C), frv D].toArray w fun e w' => e = .returned (frv (px3 p2 p3 true A B C D)) ∧ (∀ c, SumIs w bs c → SumIs w' bs (c || pn3 p2 p3 true A B C D)) ∧ BelX w.heap.size bs w w' := x_add (px2 p2 p3 A B C) D bs w hs
theorem c_tst (x y u v : Fr) (bs : Nat) (w : World) (hs : SumEx w bs) : Calls Tryz.prog 45 [ptv bs, frv (pairV x y), frv (pairV u v)].toArray w fun e w' => e = .returned (frv (tsx true x y u v)) ∧ (∀ c, SumIs w bs c → SumIs w' bs (c || tsn true x y u v)) ∧ BelX w.heap.size bs w w' := x_add (pairV x y) (pairV u v) bs w hs
theorem c_px1f (A B : Fr) (bs : Nat) (w : World) (hs : SumEx w bs) : Calls Tryz.prog 46 [ptv bs, frv A, frv B].toArray w fun e w' => e = .returned (frv (px1 false A B)) ∧ (∀ c, SumIs w bs c → SumIs w' bs (c || pn1 false A B)) ∧ BelX w.heap.size bs w w' := x_less A B bs w hs
theorem c_px2f (p2 : Bool) (A B C : Fr) (bs : Nat) (w : World) (hs : SumEx w bs) : Calls Tryz.prog 46 [ptv bs, frv (px1 p2 A B), frv C].toArray w fun e w' => e = .returned (frv (px2 p2 false A B C)) ∧ (∀ c, SumIs w bs c → SumIs w' bs (c || pn2 p2 false A B C)) ∧ BelX w.heap.size bs w w' := x_less (px1 p2 A B) C bs w hs
theorem c_px3f (p2 p3 : Bool) (A B C D : Fr) (bs : Nat) (w : World) (hs : SumEx w bs) : Calls Tryz.prog 46 [ptv bs, frv (px2 p2 p3 A B C), frv D].toArray w fun e w' => e = .returned (frv (px3 p2 p3 false A B C D)) ∧ (∀ c, SumIs w bs c → SumIs w' bs (c || pn3 p2 p3 false A B C D)) ∧ BelX w.heap.size bs w w' := x_less (px2 p2 p3 A B C) D bs w hs
theorem c_tsf (x y u v : Fr) (bs : Nat) (w : World) (hs : SumEx w bs) : Calls Tryz.prog 46 [ptv bs, frv (pairV x y), frv (pairV u v)].toArray w fun e w' => e = .returned (frv (tsx false x y u v)) ∧ (∀ c, SumIs w bs c → SumIs w' bs (c || tsn false x y u v)) ∧ BelX w.heap.size bs w w' := x_less (pairV x y) (pairV u v) bs w hs
theorem c_trreal (p : Bool) (x y u v : Fr) (bs : Nat) (w : World) (hs : SumEx w bs) : Calls Tryz.prog 47 [ptv bs, frv (tsx p x y u v)].toArray w fun e w' => e = .returned (frv (trx false p x y u v)) ∧ (∀ c, SumIs w bs c → SumIs w' bs (c || trn false p x y u v)) ∧ BelX w.heap.size bs w w' := x_real (tsx p x y u v) bs w hs
theorem c_trimag (p : Bool) (x y u v : Fr) (bs : Nat) (w : World) (hs : SumEx w bs) : Calls Tryz.prog 48 [ptv bs, frv (tsx p x y u v)].toArray w fun e w' => e = .returned (frv (trx true p x y u v)) ∧ (∀ c, SumIs w bs c → SumIs w' bs (c || trn true p x y u v)) ∧ BelX w.heap.size bs w w' := x_imag (tsx p x y u v) bs w hs
set_option maxRecDepth 100000 in
set_option maxHeartbeats 4000000 in
theorem reg6 (W0 : World) (bs r b4 b5 b6 b7 b8 b9 b10 b11 b12 : Nat) (bad : Bool) (a b c d A B C D : Fr) (hbs : bs < W0.heap.size) (hG : GZ W0) (hgb : 1 < bs) (hlt4 : bs < b4) (hn4 : b4 ≠ bs) (hn5 : b5 ≠ bs) (hn6 : b6 ≠ bs) (hn7 : b7 ≠ bs) (hn8 : b8 ≠ bs) (hn9 : b9 ≠ bs) (hn10 : b10 ≠ bs) (hn11 : b11 ≠ bs) (hn12 : b12 ≠ bs)
    (h4 : Blk W0 b4 #[ptv bs] 62) (h5 : Blk W0 b5 (frc a) 25) (h6 : Blk W0 b6 (frc b) 25) (h7 : Blk W0 b7 (frc c) 25) (h8 : Blk W0 b8 (frc d) 25) (h9 : Blk W0 b9 (frc A) 25) (h10 : Blk W0 b10 (frc B) 25) (h11 : Blk W0 b11 (frc C) 25) (h12 : Blk W0 b12 (frc D) 25) :
    Obs als6 (v6 bs r b4 b5 b6 b7 b8 b9 b10 b11 b12 a b c d A B C D) ops6 (RJ W0 bs (badL bad (entNs a b c d A B C D)) als6 st6 (tbc zs16) (fun _ => tbc (entR a b c d A B C D)) 44) Tryz.prog 47 0 0 ops6 := by
    have lf : ∀ (b' : Nat) (f : Fr), Blk W0 b' (frc f) 25 → b' ≠ bs → ∀ mm k w, RJ W0 bs (badL bad (entNs a b c d A B C D)) als6 st6 (tbc zs16) (fun _ => tbc (entR a b c d A B C D)) 44 mm k w → (Instr.loadAt 25 (.pointer (some ⟨b', 0, none⟩))).run Tryz.prog w = .ok (frv f) w :=
      fun b' f hb hn => rj_load hb hn Tryz.underlying25 rfl sz_Frac
    have hp4 : ∀ w, BelX W0.heap.size bs W0 w → b4 < w.heap.size ∧ w.cell? ⟨b4, 0, none⟩ = some (.pointer (some ⟨bs, 0, none⟩)) := fun w X => by
      have hlt := (Array.getElem?_eq_some_iff.1 h4).1
      have := (X.block b4 hlt hn4).trans h4
      exact ⟨Nat.lt_of_lt_of_le hlt X.size, by simp [World.cell?, this, ptv]⟩
    have half4 : ∀ w, SumEx w bs → BelX W0.heap.size bs W0 w → ∀ p2 p3 p4 : Bool, Calls Tryz.prog 42 [frv (px3 p2 p3 p4 A B C D), ptv b4].toArray w fun e w' => e = .returned (frv (px4 p2 p3 p4 A B C D)) ∧ (∀ c, SumIs w bs c → SumIs w' bs (c || pn4 p2 p3 p4 A B C D)) ∧ BelX w.heap.size bs w w' := fun w h X p2 p3 p4 => by
      obtain ⟨b0, hb⟩ := h
      exact (thalf b4 bs b0 (px3 p2 p3 p4 A B C D) w hb (hG.step X (Nat.le_refl _) hgb) hlt4 (hp4 w X).1 (hp4 w X).2).mono fun e w' ⟨h1, h2, h3⟩ => ⟨h1, fun c hc => by rw [← hb.uniq hc]; exact h2, h3⟩
    have pair4 : ∀ w, SumEx w bs → BelX W0.heap.size bs W0 w → ∀ u v : Fr, Calls Tryz.prog 40 [frv u, frv v, ptv b4].toArray w fun e w' => e = .returned (frv (pairV u v)) ∧ (∀ c, SumIs w bs c → SumIs w' bs (c || pairN u v)) ∧ BelX w.heap.size bs w w' := fun w h X u v => by
      obtain ⟨b0, hb⟩ := h
      exact (tpair b4 bs b0 u v w hb hlt4 (hp4 w X).1 (hp4 w X).2).mono fun e w' ⟨h1, h2, h3⟩ => ⟨h1, fun c hc => by rw [← hb.uniq hc]; exact h2, h3⟩
    refine obs_move (i := 0) rfl rfl rfl rfl ?_
    refine obs_load (i := 1) rfl rfl rfl rfl (rj_load1 h4 hn4) ?_
    refine obs_load (i := 2) rfl rfl rfl rfl (rj_load1 h4 hn4) ?_
    refine obs_load (i := 3) rfl rfl rfl rfl (rj_load1 h4 hn4) ?_
    refine obs_load (i := 4) rfl rfl rfl rfl (lf b9 A h9 hn9) ?_
    refine obs_load (i := 5) rfl rfl rfl rfl (lf b10 B h10 hn10) ?_
    refine obs_call (i := 6) (k := 0) rfl rfl Tryz.func45 rfl rfl rfl rfl (rj_call [ptv bs, frv A, frv B] (frv (px1 true A B)) hbs (ix_ne rfl) rfl (fun w h _ => c_px1t A B bs w h)) ?_
    refine obs_load (i := 7) rfl rfl rfl rfl (lf b11 C h11 hn11) ?_
    refine obs_call (i := 8) (k := 1) rfl rfl Tryz.func45 rfl rfl rfl rfl (rj_call [ptv bs, frv (px1 true A B), frv C] (frv (px2 true true A B C)) hbs (ix_ne rfl) rfl (fun w h _ => c_px2t true A B C bs w h)) ?_
    refine obs_load (i := 9) rfl rfl rfl rfl (lf b12 D h12 hn12) ?_
    refine obs_call (i := 10) (k := 2) rfl rfl Tryz.func45 rfl rfl rfl rfl (rj_call [ptv bs, frv (px2 true true A B C), frv D] (frv (px3 true true true A B C D)) hbs (ix_ne rfl) rfl (fun w h _ => c_px3t true true A B C D bs w h)) ?_
    refine obs_callC (i := 11) (k := 3) rfl rfl rfl Tryz.func42 rfl rfl rfl rfl (rj_call [frv (px3 true true true A B C D), ptv b4] (frv (px4 true true true A B C D)) hbs (ix_ne rfl) rfl (fun w h X => half4 w h X true true true)) ?_
    refine obs_move (i := 12) rfl rfl rfl rfl ?_
    refine obs_load (i := 13) rfl rfl rfl rfl (rj_load1 h4 hn4) ?_
    refine obs_load (i := 14) rfl rfl rfl rfl (rj_load1 h4 hn4) ?_
    refine obs_load (i := 15) rfl rfl rfl rfl (rj_load1 h4 hn4) ?_
    refine obs_load (i := 16) rfl rfl rfl rfl (lf b9 A h9 hn9) ?_
    refine obs_load (i := 17) rfl rfl rfl rfl (lf b10 B h10 hn10) ?_
    refine obs_call (i := 18) (k := 4) rfl rfl Tryz.func46 rfl rfl rfl rfl (rj_call [ptv bs, frv A, frv B] (frv (px1 false A B)) hbs (ix_ne rfl) rfl (fun w h _ => c_px1f A B bs w h)) ?_
    refine obs_load (i := 19) rfl rfl rfl rfl (lf b11 C h11 hn11) ?_
    refine obs_call (i := 20) (k := 5) rfl rfl Tryz.func45 rfl rfl rfl rfl (rj_call [ptv bs, frv (px1 false A B), frv C] (frv (px2 false true A B C)) hbs (ix_ne rfl) rfl (fun w h _ => c_px2t false A B C bs w h)) ?_
    refine obs_load (i := 21) rfl rfl rfl rfl (lf b12 D h12 hn12) ?_
    refine obs_call (i := 22) (k := 6) rfl rfl Tryz.func46 rfl rfl rfl rfl (rj_call [ptv bs, frv (px2 false true A B C), frv D] (frv (px3 false true false A B C D)) hbs (ix_ne rfl) rfl (fun w h _ => c_px3f false true A B C D bs w h)) ?_
    refine obs_callC (i := 23) (k := 7) rfl rfl rfl Tryz.func42 rfl rfl rfl rfl (rj_call [frv (px3 false true false A B C D), ptv b4] (frv (px4 false true false A B C D)) hbs (ix_ne rfl) rfl (fun w h X => half4 w h X false true false)) ?_
    refine obs_load (i := 24) rfl rfl rfl rfl (rj_load1 h4 hn4) ?_
    refine obs_load (i := 25) rfl rfl rfl rfl (rj_load1 h4 hn4) ?_
    refine obs_move (i := 26) rfl rfl rfl rfl ?_
    refine obs_load (i := 27) rfl rfl rfl rfl (lf b5 a h5 hn5) ?_
    refine obs_load (i := 28) rfl rfl rfl rfl (lf b6 b h6 hn6) ?_
    refine obs_callC (i := 29) (k := 8) rfl rfl rfl Tryz.func40 rfl rfl rfl rfl (rj_call [frv a, frv b, ptv b4] (frv (pairV a b)) hbs (ix_ne rfl) rfl (fun w h X => pair4 w h X a b)) ?_
    refine obs_move (i := 30) rfl rfl rfl rfl ?_
    refine obs_load (i := 31) rfl rfl rfl rfl (lf b7 c h7 hn7) ?_
    refine obs_load (i := 32) rfl rfl rfl rfl (lf b8 d h8 hn8) ?_
    refine obs_callC (i := 33) (k := 9) rfl rfl rfl Tryz.func40 rfl rfl rfl rfl (rj_call [frv c, frv d, ptv b4] (frv (pairV c d)) hbs (ix_ne rfl) rfl (fun w h X => pair4 w h X c d)) ?_
    refine obs_call (i := 34) (k := 10) rfl rfl Tryz.func45 rfl rfl rfl rfl (rj_call [ptv bs, frv (pairV a b), frv (pairV c d)] (frv (tsx true a b c d)) hbs (ix_ne rfl) rfl (fun w h _ => c_tst a b c d bs w h)) ?_
    refine obs_call (i := 35) (k := 11) rfl rfl Tryz.func47 rfl rfl rfl rfl (rj_call [ptv bs, frv (tsx true a b c d)] (frv (trx false true a b c d)) hbs (ix_ne rfl) rfl (fun w h _ => c_trreal true a b c d bs w h)) ?_
    refine obs_load (i := 36) rfl rfl rfl rfl (rj_load1 h4 hn4) ?_
    refine obs_load (i := 37) rfl rfl rfl rfl (rj_load1 h4 hn4) ?_
    refine obs_move (i := 38) rfl rfl rfl rfl ?_
    refine obs_load (i := 39) rfl rfl rfl rfl (lf b6 b h6 hn6) ?_
    refine obs_load (i := 40) rfl rfl rfl rfl (lf b5 a h5 hn5) ?_
    refine obs_callC (i := 41) (k := 12) rfl rfl rfl Tryz.func40 rfl rfl rfl rfl (rj_call [frv b, frv a, ptv b4] (frv (pairV b a)) hbs (ix_ne rfl) rfl (fun w h X => pair4 w h X b a)) ?_
    refine obs_move (i := 42) rfl rfl rfl rfl ?_
    refine obs_load (i := 43) rfl rfl rfl rfl (lf b8 d h8 hn8) ?_
    refine obs_load (i := 44) rfl rfl rfl rfl (lf b7 c h7 hn7) ?_
    refine obs_callC (i := 45) (k := 13) rfl rfl rfl Tryz.func40 rfl rfl rfl rfl (rj_call [frv d, frv c, ptv b4] (frv (pairV d c)) hbs (ix_ne rfl) rfl (fun w h X => pair4 w h X d c)) ?_
    refine obs_call (i := 46) (k := 14) rfl rfl Tryz.func45 rfl rfl rfl rfl (rj_call [ptv bs, frv (pairV b a), frv (pairV d c)] (frv (tsx true b a d c)) hbs (ix_ne rfl) rfl (fun w h _ => c_tst b a d c bs w h)) ?_
    refine obs_call (i := 47) (k := 15) rfl rfl Tryz.func48 rfl rfl rfl rfl (rj_call [ptv bs, frv (tsx true b a d c)] (frv (trx true true b a d c)) hbs (ix_ne rfl) rfl (fun w h _ => c_trimag true b a d c bs w h)) ?_
    refine obs_move (i := 48) rfl rfl rfl rfl ?_
    refine obs_load (i := 49) rfl rfl rfl rfl (rj_load1 h4 hn4) ?_
    refine obs_load (i := 50) rfl rfl rfl rfl (rj_load1 h4 hn4) ?_
    refine obs_load (i := 51) rfl rfl rfl rfl (rj_load1 h4 hn4) ?_
    refine obs_load (i := 52) rfl rfl rfl rfl (lf b9 A h9 hn9) ?_
    refine obs_load (i := 53) rfl rfl rfl rfl (lf b10 B h10 hn10) ?_
    refine obs_call (i := 54) (k := 16) rfl rfl Tryz.func45 rfl rfl rfl rfl (rj_call [ptv bs, frv A, frv B] (frv (px1 true A B)) hbs (ix_ne rfl) rfl (fun w h _ => c_px1t A B bs w h)) ?_
    refine obs_load (i := 55) rfl rfl rfl rfl (lf b11 C h11 hn11) ?_
    refine obs_call (i := 56) (k := 17) rfl rfl Tryz.func46 rfl rfl rfl rfl (rj_call [ptv bs, frv (px1 true A B), frv C] (frv (px2 true false A B C)) hbs (ix_ne rfl) rfl (fun w h _ => c_px2f true A B C bs w h)) ?_
    refine obs_load (i := 57) rfl rfl rfl rfl (lf b12 D h12 hn12) ?_
    refine obs_call (i := 58) (k := 18) rfl rfl Tryz.func46 rfl rfl rfl rfl (rj_call [ptv bs, frv (px2 true false A B C), frv D] (frv (px3 true false false A B C D)) hbs (ix_ne rfl) rfl (fun w h _ => c_px3f true false A B C D bs w h)) ?_
    refine obs_callC (i := 59) (k := 19) rfl rfl rfl Tryz.func42 rfl rfl rfl rfl (rj_call [frv (px3 true false false A B C D), ptv b4] (frv (px4 true false false A B C D)) hbs (ix_ne rfl) rfl (fun w h X => half4 w h X true false false)) ?_
    refine obs_move (i := 60) rfl rfl rfl rfl ?_
    refine obs_load (i := 61) rfl rfl rfl rfl (rj_load1 h4 hn4) ?_
    refine obs_load (i := 62) rfl rfl rfl rfl (rj_load1 h4 hn4) ?_
    refine obs_load (i := 63) rfl rfl rfl rfl (rj_load1 h4 hn4) ?_
    refine obs_load (i := 64) rfl rfl rfl rfl (lf b9 A h9 hn9) ?_
    refine obs_load (i := 65) rfl rfl rfl rfl (lf b10 B h10 hn10) ?_
    refine obs_call (i := 66) (k := 20) rfl rfl Tryz.func46 rfl rfl rfl rfl (rj_call [ptv bs, frv A, frv B] (frv (px1 false A B)) hbs (ix_ne rfl) rfl (fun w h _ => c_px1f A B bs w h)) ?_
    refine obs_load (i := 67) rfl rfl rfl rfl (lf b11 C h11 hn11) ?_
    refine obs_call (i := 68) (k := 21) rfl rfl Tryz.func46 rfl rfl rfl rfl (rj_call [ptv bs, frv (px1 false A B), frv C] (frv (px2 false false A B C)) hbs (ix_ne rfl) rfl (fun w h _ => c_px2f false A B C bs w h)) ?_
    refine obs_load (i := 69) rfl rfl rfl rfl (lf b12 D h12 hn12) ?_
    refine obs_call (i := 70) (k := 22) rfl rfl Tryz.func45 rfl rfl rfl rfl (rj_call [ptv bs, frv (px2 false false A B C), frv D] (frv (px3 false false true A B C D)) hbs (ix_ne rfl) rfl (fun w h _ => c_px3t false false A B C D bs w h)) ?_
    refine obs_callC (i := 71) (k := 23) rfl rfl rfl Tryz.func42 rfl rfl rfl rfl (rj_call [frv (px3 false false true A B C D), ptv b4] (frv (px4 false false true A B C D)) hbs (ix_ne rfl) rfl (fun w h X => half4 w h X false false true)) ?_
    refine obs_load (i := 72) rfl rfl rfl rfl (rj_load1 h4 hn4) ?_
    refine obs_load (i := 73) rfl rfl rfl rfl (rj_load1 h4 hn4) ?_
    refine obs_move (i := 74) rfl rfl rfl rfl ?_
    refine obs_load (i := 75) rfl rfl rfl rfl (lf b5 a h5 hn5) ?_
    refine obs_load (i := 76) rfl rfl rfl rfl (lf b6 b h6 hn6) ?_
    refine obs_callC (i := 77) (k := 24) rfl rfl rfl Tryz.func40 rfl rfl rfl rfl (rj_call [frv a, frv b, ptv b4] (frv (pairV a b)) hbs (ix_ne rfl) rfl (fun w h X => pair4 w h X a b)) ?_
    refine obs_move (i := 78) rfl rfl rfl rfl ?_
    refine obs_load (i := 79) rfl rfl rfl rfl (lf b7 c h7 hn7) ?_
    refine obs_load (i := 80) rfl rfl rfl rfl (lf b8 d h8 hn8) ?_
    refine obs_callC (i := 81) (k := 25) rfl rfl rfl Tryz.func40 rfl rfl rfl rfl (rj_call [frv c, frv d, ptv b4] (frv (pairV c d)) hbs (ix_ne rfl) rfl (fun w h X => pair4 w h X c d)) ?_
    refine obs_call (i := 82) (k := 26) rfl rfl Tryz.func46 rfl rfl rfl rfl (rj_call [ptv bs, frv (pairV a b), frv (pairV c d)] (frv (tsx false a b c d)) hbs (ix_ne rfl) rfl (fun w h _ => c_tsf a b c d bs w h)) ?_
    refine obs_call (i := 83) (k := 27) rfl rfl Tryz.func47 rfl rfl rfl rfl (rj_call [ptv bs, frv (tsx false a b c d)] (frv (trx false false a b c d)) hbs (ix_ne rfl) rfl (fun w h _ => c_trreal false a b c d bs w h)) ?_
    refine obs_load (i := 84) rfl rfl rfl rfl (rj_load1 h4 hn4) ?_
    refine obs_load (i := 85) rfl rfl rfl rfl (rj_load1 h4 hn4) ?_
    refine obs_move (i := 86) rfl rfl rfl rfl ?_
    refine obs_load (i := 87) rfl rfl rfl rfl (lf b6 b h6 hn6) ?_
    refine obs_load (i := 88) rfl rfl rfl rfl (lf b5 a h5 hn5) ?_
    refine obs_callC (i := 89) (k := 28) rfl rfl rfl Tryz.func40 rfl rfl rfl rfl (rj_call [frv b, frv a, ptv b4] (frv (pairV b a)) hbs (ix_ne rfl) rfl (fun w h X => pair4 w h X b a)) ?_
    refine obs_move (i := 90) rfl rfl rfl rfl ?_
    refine obs_load (i := 91) rfl rfl rfl rfl (lf b8 d h8 hn8) ?_
    refine obs_load (i := 92) rfl rfl rfl rfl (lf b7 c h7 hn7) ?_
    refine obs_callC (i := 93) (k := 29) rfl rfl rfl Tryz.func40 rfl rfl rfl rfl (rj_call [frv d, frv c, ptv b4] (frv (pairV d c)) hbs (ix_ne rfl) rfl (fun w h X => pair4 w h X d c)) ?_
    refine obs_call (i := 94) (k := 30) rfl rfl Tryz.func46 rfl rfl rfl rfl (rj_call [ptv bs, frv (pairV b a), frv (pairV d c)] (frv (tsx false b a d c)) hbs (ix_ne rfl) rfl (fun w h _ => c_tsf b a d c bs w h)) ?_
    refine obs_call (i := 95) (k := 31) rfl rfl Tryz.func48 rfl rfl rfl rfl (rj_call [ptv bs, frv (tsx false b a d c)] (frv (trx true false b a d c)) hbs (ix_ne rfl) rfl (fun w h _ => c_trimag false b a d c bs w h)) ?_
    refine obs_load (i := 96) rfl rfl rfl rfl (rj_load1 h4 hn4) ?_
    refine obs_load (i := 97) rfl rfl rfl rfl (rj_load1 h4 hn4) ?_
    refine obs_move (i := 98) rfl rfl rfl rfl ?_
    refine obs_load (i := 99) rfl rfl rfl rfl (lf b5 a h5 hn5) ?_
    refine obs_load (i := 100) rfl rfl rfl rfl (lf b7 c h7 hn7) ?_
    refine obs_callC (i := 101) (k := 32) rfl rfl rfl Tryz.func40 rfl rfl rfl rfl (rj_call [frv a, frv c, ptv b4] (frv (pairV a c)) hbs (ix_ne rfl) rfl (fun w h X => pair4 w h X a c)) ?_
    refine obs_move (i := 102) rfl rfl rfl rfl ?_
    refine obs_load (i := 103) rfl rfl rfl rfl (lf b6 b h6 hn6) ?_
    refine obs_load (i := 104) rfl rfl rfl rfl (lf b8 d h8 hn8) ?_
    refine obs_callC (i := 105) (k := 33) rfl rfl rfl Tryz.func40 rfl rfl rfl rfl (rj_call [frv b, frv d, ptv b4] (frv (pairV b d)) hbs (ix_ne rfl) rfl (fun w h X => pair4 w h X b d)) ?_
    refine obs_call (i := 106) (k := 34) rfl rfl Tryz.func45 rfl rfl rfl rfl (rj_call [ptv bs, frv (pairV a c), frv (pairV b d)] (frv (tsx true a c b d)) hbs (ix_ne rfl) rfl (fun w h _ => c_tst a c b d bs w h)) ?_
    refine obs_call (i := 107) (k := 35) rfl rfl Tryz.func47 rfl rfl rfl rfl (rj_call [ptv bs, frv (tsx true a c b d)] (frv (trx false true a c b d)) hbs (ix_ne rfl) rfl (fun w h _ => c_trreal true a c b d bs w h)) ?_
    refine obs_load (i := 108) rfl rfl rfl rfl (rj_load1 h4 hn4) ?_
    refine obs_load (i := 109) rfl rfl rfl rfl (rj_load1 h4 hn4) ?_
    refine obs_move (i := 110) rfl rfl rfl rfl ?_
    refine obs_load (i := 111) rfl rfl rfl rfl (lf b5 a h5 hn5) ?_
    refine obs_load (i := 112) rfl rfl rfl rfl (lf b7 c h7 hn7) ?_
    refine obs_callC (i := 113) (k := 36) rfl rfl rfl Tryz.func40 rfl rfl rfl rfl (rj_call [frv a, frv c, ptv b4] (frv (pairV a c)) hbs (ix_ne rfl) rfl (fun w h X => pair4 w h X a c)) ?_
    refine obs_move (i := 114) rfl rfl rfl rfl ?_
    refine obs_load (i := 115) rfl rfl rfl rfl (lf b6 b h6 hn6) ?_
    refine obs_load (i := 116) rfl rfl rfl rfl (lf b8 d h8 hn8) ?_
    refine obs_callC (i := 117) (k := 37) rfl rfl rfl Tryz.func40 rfl rfl rfl rfl (rj_call [frv b, frv d, ptv b4] (frv (pairV b d)) hbs (ix_ne rfl) rfl (fun w h X => pair4 w h X b d)) ?_
    refine obs_call (i := 118) (k := 38) rfl rfl Tryz.func46 rfl rfl rfl rfl (rj_call [ptv bs, frv (pairV a c), frv (pairV b d)] (frv (tsx false a c b d)) hbs (ix_ne rfl) rfl (fun w h _ => c_tsf a c b d bs w h)) ?_
    refine obs_call (i := 119) (k := 39) rfl rfl Tryz.func47 rfl rfl rfl rfl (rj_call [ptv bs, frv (tsx false a c b d)] (frv (trx false false a c b d)) hbs (ix_ne rfl) rfl (fun w h _ => c_trreal false a c b d bs w h)) ?_
    refine obs_load (i := 120) rfl rfl rfl rfl (rj_load1 h4 hn4) ?_
    refine obs_load (i := 121) rfl rfl rfl rfl (rj_load1 h4 hn4) ?_
    refine obs_move (i := 122) rfl rfl rfl rfl ?_
    refine obs_load (i := 123) rfl rfl rfl rfl (lf b5 a h5 hn5) ?_
    refine obs_load (i := 124) rfl rfl rfl rfl (lf b8 d h8 hn8) ?_
    refine obs_callC (i := 125) (k := 40) rfl rfl rfl Tryz.func40 rfl rfl rfl rfl (rj_call [frv a, frv d, ptv b4] (frv (pairV a d)) hbs (ix_ne rfl) rfl (fun w h X => pair4 w h X a d)) ?_
    refine obs_move (i := 126) rfl rfl rfl rfl ?_
    refine obs_load (i := 127) rfl rfl rfl rfl (lf b6 b h6 hn6) ?_
    refine obs_load (i := 128) rfl rfl rfl rfl (lf b7 c h7 hn7) ?_
    refine obs_callC (i := 129) (k := 41) rfl rfl rfl Tryz.func40 rfl rfl rfl rfl (rj_call [frv b, frv c, ptv b4] (frv (pairV b c)) hbs (ix_ne rfl) rfl (fun w h X => pair4 w h X b c)) ?_
    refine obs_call (i := 130) (k := 42) rfl rfl Tryz.func45 rfl rfl rfl rfl (rj_call [ptv bs, frv (pairV a d), frv (pairV b c)] (frv (tsx true a d b c)) hbs (ix_ne rfl) rfl (fun w h _ => c_tst a d b c bs w h)) ?_
    refine obs_call (i := 131) (k := 43) rfl rfl Tryz.func47 rfl rfl rfl rfl (rj_call [ptv bs, frv (tsx true a d b c)] (frv (trx false true a d b c)) hbs (ix_ne rfl) rfl (fun w h _ => c_trreal true a d b c bs w h)) ?_
    refine obs_load (i := 132) rfl rfl rfl rfl (rj_load1 h4 hn4) ?_
    refine obs_load (i := 133) rfl rfl rfl rfl (rj_load1 h4 hn4) ?_
    refine obs_move (i := 134) rfl rfl rfl rfl ?_
    refine obs_load (i := 135) rfl rfl rfl rfl (lf b6 b h6 hn6) ?_
    refine obs_load (i := 136) rfl rfl rfl rfl (lf b7 c h7 hn7) ?_
    refine obs_callC (i := 137) (k := 44) rfl rfl rfl Tryz.func40 rfl rfl rfl rfl (rj_call [frv b, frv c, ptv b4] (frv (pairV b c)) hbs (ix_ne rfl) rfl (fun w h X => pair4 w h X b c)) ?_
    refine obs_move (i := 138) rfl rfl rfl rfl ?_
    refine obs_load (i := 139) rfl rfl rfl rfl (lf b5 a h5 hn5) ?_
    refine obs_load (i := 140) rfl rfl rfl rfl (lf b8 d h8 hn8) ?_
    refine obs_callC (i := 141) (k := 45) rfl rfl rfl Tryz.func40 rfl rfl rfl rfl (rj_call [frv a, frv d, ptv b4] (frv (pairV a d)) hbs (ix_ne rfl) rfl (fun w h X => pair4 w h X a d)) ?_
    refine obs_call (i := 142) (k := 46) rfl rfl Tryz.func46 rfl rfl rfl rfl (rj_call [ptv bs, frv (pairV b c), frv (pairV a d)] (frv (tsx false b c a d)) hbs (ix_ne rfl) rfl (fun w h _ => c_tsf b c a d bs w h)) ?_
    refine obs_call (i := 143) (k := 47) rfl rfl Tryz.func48 rfl rfl rfl rfl (rj_call [ptv bs, frv (tsx false b c a d)] (frv (trx true false b c a d)) hbs (ix_ne rfl) rfl (fun w h _ => c_trimag false b c a d bs w h)) ?_
    refine obs_load (i := 144) rfl rfl rfl rfl (rj_load1 h4 hn4) ?_
    refine obs_load (i := 145) rfl rfl rfl rfl (rj_load1 h4 hn4) ?_
    refine obs_move (i := 146) rfl rfl rfl rfl ?_
    refine obs_load (i := 147) rfl rfl rfl rfl (lf b5 a h5 hn5) ?_
    refine obs_load (i := 148) rfl rfl rfl rfl (lf b7 c h7 hn7) ?_
    refine obs_callC (i := 149) (k := 48) rfl rfl rfl Tryz.func40 rfl rfl rfl rfl (rj_call [frv a, frv c, ptv b4] (frv (pairV a c)) hbs (ix_ne rfl) rfl (fun w h X => pair4 w h X a c)) ?_
    refine obs_move (i := 150) rfl rfl rfl rfl ?_
    refine obs_load (i := 151) rfl rfl rfl rfl (lf b6 b h6 hn6) ?_
    refine obs_load (i := 152) rfl rfl rfl rfl (lf b8 d h8 hn8) ?_
    refine obs_callC (i := 153) (k := 49) rfl rfl rfl Tryz.func40 rfl rfl rfl rfl (rj_call [frv b, frv d, ptv b4] (frv (pairV b d)) hbs (ix_ne rfl) rfl (fun w h X => pair4 w h X b d)) ?_
    refine obs_call (i := 154) (k := 50) rfl rfl Tryz.func45 rfl rfl rfl rfl (rj_call [ptv bs, frv (pairV a c), frv (pairV b d)] (frv (tsx true a c b d)) hbs (ix_ne rfl) rfl (fun w h _ => c_tst a c b d bs w h)) ?_
    refine obs_call (i := 155) (k := 51) rfl rfl Tryz.func48 rfl rfl rfl rfl (rj_call [ptv bs, frv (tsx true a c b d)] (frv (trx true true a c b d)) hbs (ix_ne rfl) rfl (fun w h _ => c_trimag true a c b d bs w h)) ?_
    refine obs_load (i := 156) rfl rfl rfl rfl (rj_load1 h4 hn4) ?_
    refine obs_load (i := 157) rfl rfl rfl rfl (rj_load1 h4 hn4) ?_
    refine obs_move (i := 158) rfl rfl rfl rfl ?_
    refine obs_load (i := 159) rfl rfl rfl rfl (lf b5 a h5 hn5) ?_
    refine obs_load (i := 160) rfl rfl rfl rfl (lf b7 c h7 hn7) ?_
    refine obs_callC (i := 161) (k := 52) rfl rfl rfl Tryz.func40 rfl rfl rfl rfl (rj_call [frv a, frv c, ptv b4] (frv (pairV a c)) hbs (ix_ne rfl) rfl (fun w h X => pair4 w h X a c)) ?_
    refine obs_move (i := 162) rfl rfl rfl rfl ?_
    refine obs_load (i := 163) rfl rfl rfl rfl (lf b6 b h6 hn6) ?_
    refine obs_load (i := 164) rfl rfl rfl rfl (lf b8 d h8 hn8) ?_
    refine obs_callC (i := 165) (k := 53) rfl rfl rfl Tryz.func40 rfl rfl rfl rfl (rj_call [frv b, frv d, ptv b4] (frv (pairV b d)) hbs (ix_ne rfl) rfl (fun w h X => pair4 w h X b d)) ?_
    refine obs_call (i := 166) (k := 54) rfl rfl Tryz.func46 rfl rfl rfl rfl (rj_call [ptv bs, frv (pairV a c), frv (pairV b d)] (frv (tsx false a c b d)) hbs (ix_ne rfl) rfl (fun w h _ => c_tsf a c b d bs w h)) ?_
    refine obs_call (i := 167) (k := 55) rfl rfl Tryz.func48 rfl rfl rfl rfl (rj_call [ptv bs, frv (tsx false a c b d)] (frv (trx true false a c b d)) hbs (ix_ne rfl) rfl (fun w h _ => c_trimag false a c b d bs w h)) ?_
    refine obs_load (i := 168) rfl rfl rfl rfl (rj_load1 h4 hn4) ?_
    refine obs_load (i := 169) rfl rfl rfl rfl (rj_load1 h4 hn4) ?_
    refine obs_move (i := 170) rfl rfl rfl rfl ?_
    refine obs_load (i := 171) rfl rfl rfl rfl (lf b5 a h5 hn5) ?_
    refine obs_load (i := 172) rfl rfl rfl rfl (lf b8 d h8 hn8) ?_
    refine obs_callC (i := 173) (k := 56) rfl rfl rfl Tryz.func40 rfl rfl rfl rfl (rj_call [frv a, frv d, ptv b4] (frv (pairV a d)) hbs (ix_ne rfl) rfl (fun w h X => pair4 w h X a d)) ?_
    refine obs_move (i := 174) rfl rfl rfl rfl ?_
    refine obs_load (i := 175) rfl rfl rfl rfl (lf b6 b h6 hn6) ?_
    refine obs_load (i := 176) rfl rfl rfl rfl (lf b7 c h7 hn7) ?_
    refine obs_callC (i := 177) (k := 57) rfl rfl rfl Tryz.func40 rfl rfl rfl rfl (rj_call [frv b, frv c, ptv b4] (frv (pairV b c)) hbs (ix_ne rfl) rfl (fun w h X => pair4 w h X b c)) ?_
    refine obs_call (i := 178) (k := 58) rfl rfl Tryz.func45 rfl rfl rfl rfl (rj_call [ptv bs, frv (pairV a d), frv (pairV b c)] (frv (tsx true a d b c)) hbs (ix_ne rfl) rfl (fun w h _ => c_tst a d b c bs w h)) ?_
    refine obs_call (i := 179) (k := 59) rfl rfl Tryz.func48 rfl rfl rfl rfl (rj_call [ptv bs, frv (tsx true a d b c)] (frv (trx true true a d b c)) hbs (ix_ne rfl) rfl (fun w h _ => c_trimag true a d b c bs w h)) ?_
    refine obs_load (i := 180) rfl rfl rfl rfl (rj_load1 h4 hn4) ?_
    refine obs_load (i := 181) rfl rfl rfl rfl (rj_load1 h4 hn4) ?_
    refine obs_move (i := 182) rfl rfl rfl rfl ?_
    refine obs_load (i := 183) rfl rfl rfl rfl (lf b5 a h5 hn5) ?_
    refine obs_load (i := 184) rfl rfl rfl rfl (lf b8 d h8 hn8) ?_
    refine obs_callC (i := 185) (k := 60) rfl rfl rfl Tryz.func40 rfl rfl rfl rfl (rj_call [frv a, frv d, ptv b4] (frv (pairV a d)) hbs (ix_ne rfl) rfl (fun w h X => pair4 w h X a d)) ?_
    refine obs_move (i := 186) rfl rfl rfl rfl ?_
    refine obs_load (i := 187) rfl rfl rfl rfl (lf b6 b h6 hn6) ?_
    refine obs_load (i := 188) rfl rfl rfl rfl (lf b7 c h7 hn7) ?_
    refine obs_callC (i := 189) (k := 61) rfl rfl rfl Tryz.func40 rfl rfl rfl rfl (rj_call [frv b, frv c, ptv b4] (frv (pairV b c)) hbs (ix_ne rfl) rfl (fun w h X => pair4 w h X b c)) ?_
    refine obs_call (i := 190) (k := 62) rfl rfl Tryz.func46 rfl rfl rfl rfl (rj_call [ptv bs, frv (pairV a d), frv (pairV b c)] (frv (tsx false a d b c)) hbs (ix_ne rfl) rfl (fun w h _ => c_tsf a d b c bs w h)) ?_
    refine obs_call (i := 191) (k := 63) rfl rfl Tryz.func47 rfl rfl rfl rfl (rj_call [ptv bs, frv (tsx false a d b c)] (frv (trx false false a d b c)) hbs (ix_ne rfl) rfl (fun w h _ => c_trreal false a d b c bs w h)) ?_
    refine obs_build (i := 192) rfl rfl rfl rfl (fun w => by kernel_rfl) ?_
    refine obs_build (i := 193) rfl rfl rfl rfl (fun w => by kernel_rfl) ?_
    refine obs_alloc (i := 194) rfl rfl rfl (rj_alloc (t := 15) rfl run_allocTab) ?_
    refine obs_store (i := 195) (k := 64) rfl rfl rfl rfl rfl (rj_store (t := 15) hbs rfl (ix_inj rfl) rfl rfl (tbc_one _) (sz_Tab _ rfl)) ?_
    exact obs_nil rfl
end
section
open Go.RowKit
attribute [local go_sem ↓] Go.wp_at_zero Go.wp_at_succ
theorem rdlt2 : ∀ t ∈ rd2, t < 21 ∧ ixOf als2 t = none := by decide
theorem rdlt3 : ∀ t ∈ rd3, t < 33 ∧ ixOf als3 t = none := by decide
theorem rdlt6 : ∀ t ∈ rd6, t < 47 ∧ ixOf als6 t = none := by decide
/-- What is known of the slots and the world behind the three great regions. -/
def rel2 (w : World) (b4 : Nat) (m : Mt) (s1 s2 s3 s4 s5 s6 s7 s8 : Value) (W : World) : Prop :=
  s1 = .pointer (some ⟨w.heap.size, 0, none⟩) ∧ s2 = .pointer (some ⟨w.heap.size + 1, 0, none⟩) ∧ s3 = .bool false ∧ s4 = .pointer (some ⟨b4, 0, none⟩) ∧ ∃ b5 b6 b7 b8 : Nat, s5 = .pointer (some ⟨b5, 0, none⟩) ∧ s6 = .pointer (some ⟨b6, 0, none⟩) ∧ s7 = .pointer (some ⟨b7, 0, none⟩) ∧ s8 = .pointer (some ⟨b8, 0, none⟩) ∧ TW w b4 ([] ++ [(b5, m.a)] ++ [(b6, m.b)] ++ [(b7, m.c)] ++ [(b8, m.d)]) (!mvalid m) W
def rel3 (w : World) (b4 b5 b6 b7 b8 : Nat) (m : Mt) (s2 s3 s4 s5 s6 s7 s8 s9 s10 s11 s12 : Value) (W : World) : Prop :=
  s2 = .pointer (some ⟨w.heap.size + 1, 0, none⟩) ∧ s3 = .bool false ∧ s4 = .pointer (some ⟨b4, 0, none⟩) ∧ s5 = .pointer (some ⟨b5, 0, none⟩) ∧ s6 = .pointer (some ⟨b6, 0, none⟩) ∧ s7 = .pointer (some ⟨b7, 0, none⟩) ∧ s8 = .pointer (some ⟨b8, 0, none⟩) ∧ ∃ b9 b10 b11 b12 : Nat, s9 = .pointer (some ⟨b9, 0, none⟩) ∧ s10 = .pointer (some ⟨b10, 0, none⟩) ∧ s11 = .pointer (some ⟨b11, 0, none⟩) ∧ s12 = .pointer (some ⟨b12, 0, none⟩) ∧ TW w b4 ([] ++ [(b5, m.a)] ++ [(b6, m.b)] ++ [(b7, m.c)] ++ [(b8, m.d)] ++ [(b9, vN (powerI m.a))] ++ [(b10, vN (powerI m.b))] ++ [(b11, vN (powerI m.c))] ++ [(b12, vN (powerI m.d))]) (badL (!mvalid m) (ns3 m) 8) W
def rel6 (w : World) (b4 : Nat) (fs : List (Nat × Fr)) (m : Mt) (s2 s3 s4 s15 : Value) (W : World) : Prop :=
  s2 = .pointer (some ⟨w.heap.size + 1, 0, none⟩) ∧ s3 = .bool false ∧ s4 = .pointer (some ⟨b4, 0, none⟩) ∧ ∃ b15 : Nat, s15 = .pointer (some ⟨b15, 0, none⟩) ∧ w.heap.size + 1 + 1 < b15 ∧ Blk W b15 (tbc (entR m.a m.b m.c m.d (vN (powerI m.a)) (vN (powerI m.b)) (vN (powerI m.c)) (vN (powerI m.d)))) 44 ∧ TW w b4 fs (badL (badL (!mvalid m) (ns3 m) 8) (entNs m.a m.b m.c m.d (vN (powerI m.a)) (vN (powerI m.b)) (vN (powerI m.c)) (vN (powerI m.d))) 65) W
theorem tab_bad (v : Bool) (a b c d : Fr) : tabI4 v a b c d = if badL (badL (!v) (ns3 ⟨a, b, c, d⟩) 8) (entNs a b c d (vN (powerI a)) (vN (powerI b)) (vN (powerI c)) (vN (powerI d))) 65 then none else some (entR a b c d (vN (powerI a)) (vN (powerI b)) (vN (powerI c)) (vN (powerI d))) := by
  have key : ∀ (x : Bool) (A B C D : Fr), badL x (entNs a b c d A B C D) 65 = (x || (entsI a b c d A B C D).any (·.2)) := by
    intro x A B C D
    have e : badL x (entNs a b c d A B C D) 65 = ((((((((((((((((((((((((((((((((((((((((((((((((((((((((((((((((x || pn1 true A B) || pn2 true true A B C) || pn3 true true true A B C D) || pn4 true true true A B C D) || pn1 false A B) || pn2 false true A B C) || pn3 false true false A B C D) || pn4 false true false A B C D) || pairN a b) || pairN c d) || tsn true a b c d) || trn false true a b c d) || pairN b a) || pairN d c) || tsn true b a d c) || trn true true b a d c) || pn1 true A B) || pn2 true false A B C) || pn3 true false false A B C D) || pn4 true false false A B C D) || pn1 false A B) || pn2 false false A B C) || pn3 false false true A B C D) || pn4 false false true A B C D) || pairN a b) || pairN c d) || tsn false a b c d) || trn false false a b c d) || pairN b a) || pairN d c) || tsn false b a d c) || trn true false b a d c) || pairN a c) || pairN b d) || tsn true a c b d) || trn false true a c b d) || pairN a c) || pairN b d) || tsn false a c b d) || trn false false a c b d) || pairN a d) || pairN b c) || tsn true a d b c) || trn false true a d b c) || pairN b c) || pairN a d) || tsn false b c a d) || trn true false b c a d) || pairN a c) || pairN b d) || tsn true a c b d) || trn true true a c b d) || pairN a c) || pairN b d) || tsn false a c b d) || trn true false a c b d) || pairN a d) || pairN b c) || tsn true a d b c) || trn true true a d b c) || pairN a d) || pairN b c) || tsn false a d b c) || trn false false a d b c) := rfl
    rw [e]
    simp only [entsI, List.any_cons, List.any_nil, px_pow, tr_two, Bool.or_assoc, Bool.or_false]
  have e3 : badL (!v) (ns3 ⟨a, b, c, d⟩) 8 = (!v || pow4 a b c d) := by
    have e : badL (!v) (ns3 ⟨a, b, c, d⟩) 8 = ((((!v || (powerI a).isNone) || (powerI b).isNone) || (powerI c).isNone) || (powerI d).isNone) := rfl
    rw [e]
    simp only [pow4, Bool.or_assoc]
  unfold tabI4
  rw [key, e3]
  simp only [entR_eq]
set_option maxRecDepth 100000 in
set_option maxHeartbeats 8000000 in
theorem tableOf_any (m : Mt) (w : World) (hG : GZ w) :
    Calls Tryz.prog 12 #[mtv m] w fun e w' => e = .returned (tbb (tabM m)) ∧ Below w.heap.size w w' := by
  have hgl := hG.lts
  go_enter Tryz.func12, Tryz.ntmps12
  go_upto_region 2 with (first | (go_at_call 38; (with_reducible refine (mvalid_any m _).mono ?_); rintro e wa ⟨rfl, hba⟩; have HBA := Lib.hid hba; have hsa : SumIs wa (w.heap.size + 1 + 1) false := SumIs.below (SumIs.new' (by simp)) hba (by simp); clear hba) | (go_at_call 26; (with_reducible refine (x_need (mvalid m) (w.heap.size + 1 + 1) _ (SumEx.of hsa)).mono ?_); rintro e wb ⟨rfl, hu, hx⟩; have HSB := Lib.hid (hu _ hsa); have HXB := Lib.hid hx; clear hu hx))
  have hba := HBA.out
  have hsb := HSB.out
  have hxb := HXB.out
  clear HBA HSB HXB
  obtain ⟨W00, h00⟩ : ∃ W, W = ((w.alloc (.cells (mtc m) 36)).alloc (.cells (tbc zs16) 44)).alloc (.cells #[.bool false] 64) := ⟨_, rfl⟩
  have z00 : W00.heap.size = w.heap.size + 1 + 1 + 1 := by rw [h00]; simp
  have hba : Below W00.heap.size W00 wa := by rw [h00]; exact hba
  have m00 : Blk W00 w.heap.size (mtc m) 36 := by
    rw [h00]
    exact (Below.heap_alloc _ _ _ (by simp; omega)).trans ((Below.heap_alloc _ _ _ (by simp)).trans (heap_alloc_last w _))
  have r00 : TbIs W00 (w.heap.size + 1) zs16 := by
    rw [h00]
    exact (TbIs.new' zs16 (by simp)).alloc _
  have b00 : Below w.heap.size w W00 := by rw [h00]; exact ((((Below.refl _ _).alloc (Nat.le_refl _) _).alloc (by simp) _).alloc (by simp; omega) _)
  obtain ⟨b4, hb4⟩ : ∃ b, b = wb.heap.size := ⟨_, rfl⟩
  rw [← hb4]
  obtain ⟨W1, hW1⟩ : ∃ W, W = wb.alloc (.cells #[.pointer (some ⟨(w.heap.size + 1 + 1), 0, none⟩)] 62) := ⟨_, rfl⟩
  rw [← hW1]
  have za := hba.size
  have zb := hxb.size
  have x1 : BelX W00.heap.size (w.heap.size + 1 + 1) W00 W1 := by rw [hW1]; exact ((BelX.of hba).trans (hxb.mono za)).alloc (by omega) _
  have hM : Blk W1 w.heap.size (mtc m) 36 := (x1.block _ (by omega) (by omega)).trans m00
  have hT : TW w b4 [] (!mvalid m) W1 := by
    refine ⟨((BelX.of b00).trans (x1.mono (by omega))).below (by omega), ?_, r00.same (x1.block _ (by omega) (by omega)), ⟨by omega, ?_⟩, fun q hq => by cases hq⟩
    · rw [hW1]; exact hsb.alloc _
    · rw [hW1, hb4]; exact heap_alloc_last wb _
  have hG1 : GZ W1 := (hG.below b00).step x1 (Nat.le_refl _) (by omega)
  have s1 : w.heap.size < W1.heap.size := Nat.lt_of_lt_of_le (by omega) x1.size
  have hbs1 := hT.s.lt
  clear hba hsb hxb za zb x1 hW1 hb4 m00 r00 b00 z00 h00 hsa
  go_cut [1, 2, 3, 4, 5, 6, 7, 8] from 0 to 245 (rel2 w b4 m)
  case first =>
    rename_i J K' hJ hK
    refine region_sim (als := als2) (rd := rd2) (V := v2 w.heap.size (w.heap.size + 1) b4 m) (J := RJ W1 (w.heap.size + 1 + 1) (fun _ => !mvalid m) als2 st2 z3c (cv2 m) 25) (base := 21) (L := ops2) mixO (by kernel_rfl) (ix_lt rfl) ok2 (reg2 W1 (w.heap.size + 1 + 1) w.heap.size (w.heap.size + 1) b4 (!mvalid m) m hbs1 (by omega) hM) ?_ (by rw [ln2.1]; simp) ?_ (rj_start hT.s)
    · intro mm a W hJW hmade hsz hkeep hlow hup hal
      rw [ln2.1, ln2.2] at hJW
      have hmd := made_of mk2 hmade
      have lw : ∀ t ∈ rd2, a.eval (.tmp t) = v2 w.heap.size (w.heap.size + 1) b4 m t := fun t ht => hlow t (rdlt2 t ht).1 (rdlt2 t ht).2 (by simpa using ht)
      obtain ⟨b5, e5⟩ := hmd (5, 12) (by simp [als2])
      obtain ⟨g5, k5⟩ := hJW.b 5 b5 e5
      have l5 := hal 5 b5 rfl e5
      obtain ⟨b6, e6⟩ := hmd (6, 13) (by simp [als2])
      obtain ⟨g6, k6⟩ := hJW.b 6 b6 e6
      have l6 := hal 6 b6 rfl e6
      obtain ⟨b7, e7⟩ := hmd (7, 14) (by simp [als2])
      obtain ⟨g7, k7⟩ := hJW.b 7 b7 e7
      have l7 := hal 7 b7 rfl e7
      obtain ⟨b8, e8⟩ := hmd (8, 15) (by simp [als2])
      obtain ⟨g8, k8⟩ := hJW.b 8 b8 e8
      have l8 := hal 8 b8 rfl e8
      have hT2 := hT.step hJW.X hJW.s
      have z := hT.B.size
      have zl := hT.s.lt
      have hT3 := (((hT2.more (f := m.a) (by omega) k5).more (f := m.b) (by omega) k6).more (f := m.c) (by omega) k7).more (f := m.d) (by omega) k8
      exact hK _ _ (Met.intro (hJ _ _ ⟨a.eval (.tmp 0), a.eval (.tmp 1), a.eval (.tmp 2), a.eval (.tmp 3), a.eval (.tmp 4), a.eval (.tmp 5), a.eval (.tmp 6), a.eval (.tmp 7), a.eval (.tmp 8), a.eval (.tmp 9), a.eval (.tmp 10), a.eval (.tmp 11), a.eval (.tmp 12), a.eval (.tmp 13), a.eval (.tmp 14), a.eval (.tmp 15), a.eval (.tmp 16), a.eval (.tmp 17), a.eval (.tmp 18), a.eval (.tmp 19), a.eval (.tmp 20), a.eval (.tmp 21), a.eval (.tmp 22), a.eval (.tmp 23), a.eval (.tmp 24), a.eval (.tmp 25), a.eval (.tmp 26), a.eval (.tmp 27), a.eval (.tmp 28), a.eval (.tmp 29), a.eval (.tmp 30), a.eval (.tmp 31), a.eval (.tmp 32), a.eval (.tmp 33), a.eval (.tmp 34), a.eval (.tmp 35), a.eval (.tmp 36), a.eval (.tmp 37), a.eval (.tmp 38), a.eval (.tmp 39), a.eval (.tmp 40), a.eval (.tmp 41), a.eval (.tmp 42), a.eval (.tmp 43), a.eval (.tmp 44), a.eval (.tmp 45), a.eval (.tmp 46), a.eval (.tmp 47), a.eval (.tmp 48), a.eval (.tmp 49), a.eval (.tmp 50), a.eval (.tmp 51), a.eval (.tmp 52), a.eval (.tmp 53), a.eval (.tmp 54), a.eval (.tmp 55), a.eval (.tmp 56), a.eval (.tmp 57), a.eval (.tmp 58), a.eval (.tmp 59), a.eval (.tmp 60), a.eval (.tmp 61), a.eval (.tmp 62), a.eval (.tmp 63), a.eval (.tmp 64), a.eval (.tmp 65), a.eval (.tmp 66), a.eval (.tmp 67), a.eval (.tmp 68), a.eval (.tmp 69), a.eval (.tmp 70), a.eval (.tmp 71), a.eval (.tmp 72), a.eval (.tmp 73), a.eval (.tmp 74), a.eval (.tmp 75), a.eval (.tmp 76), a.eval (.tmp 77), a.eval (.tmp 78), a.eval (.tmp 79), a.eval (.tmp 80), a.eval (.tmp 81), a.eval (.tmp 82), a.eval (.tmp 83), a.eval (.tmp 84), a.eval (.tmp 85), a.eval (.tmp 86), a.eval (.tmp 87), a.eval (.tmp 88), a.eval (.tmp 89), a.eval (.tmp 90), a.eval (.tmp 91), a.eval (.tmp 92), a.eval (.tmp 93), a.eval (.tmp 94), a.eval (.tmp 95), a.eval (.tmp 96), a.eval (.tmp 97), a.eval (.tmp 98), a.eval (.tmp 99), a.eval (.tmp 100), a.eval (.tmp 101), a.eval (.tmp 102), a.eval (.tmp 103), a.eval (.tmp 104), a.eval (.tmp 105), a.eval (.tmp 106), a.eval (.tmp 107), a.eval (.tmp 108), a.eval (.tmp 109), a.eval (.tmp 110), a.eval (.tmp 111), a.eval (.tmp 112), a.eval (.tmp 113), a.eval (.tmp 114), a.eval (.tmp 115), a.eval (.tmp 116), a.eval (.tmp 117), a.eval (.tmp 118), a.eval (.tmp 119), a.eval (.tmp 120), a.eval (.tmp 121), a.eval (.tmp 122), a.eval (.tmp 123), a.eval (.tmp 124), a.eval (.tmp 125), a.eval (.tmp 126), a.eval (.tmp 127), a.eval (.tmp 128), a.eval (.tmp 129), a.eval (.tmp 130), a.eval (.tmp 131), a.eval (.tmp 132), a.eval (.tmp 133), a.eval (.tmp 134), a.eval (.tmp 135), a.eval (.tmp 136), a.eval (.tmp 137), a.eval (.tmp 138), a.eval (.tmp 139), a.eval (.tmp 140), a.eval (.tmp 141), a.eval (.tmp 142), a.eval (.tmp 143), a.eval (.tmp 144), a.eval (.tmp 145), a.eval (.tmp 146), a.eval (.tmp 147), a.eval (.tmp 148), a.eval (.tmp 149), a.eval (.tmp 150), a.eval (.tmp 151), a.eval (.tmp 152), a.eval (.tmp 153), a.eval (.tmp 154), a.eval (.tmp 155), a.eval (.tmp 156), a.eval (.tmp 157), a.eval (.tmp 158), a.eval (.tmp 159), a.eval (.tmp 160), a.eval (.tmp 161), a.eval (.tmp 162), a.eval (.tmp 163), a.eval (.tmp 164), a.eval (.tmp 165), a.eval (.tmp 166), a.eval (.tmp 167), a.eval (.tmp 168), a.eval (.tmp 169), a.eval (.tmp 170), a.eval (.tmp 171), a.eval (.tmp 172), a.eval (.tmp 173), a.eval (.tmp 174), a.eval (.tmp 175), a.eval (.tmp 176), a.eval (.tmp 177), a.eval (.tmp 178), a.eval (.tmp 179), a.eval (.tmp 180), a.eval (.tmp 181), a.eval (.tmp 182), a.eval (.tmp 183), a.eval (.tmp 184), a.eval (.tmp 185), a.eval (.tmp 186), a.eval (.tmp 187), a.eval (.tmp 188), a.eval (.tmp 189), a.eval (.tmp 190), a.eval (.tmp 191), a.eval (.tmp 192), a.eval (.tmp 193), a.eval (.tmp 194), a.eval (.tmp 195), a.eval (.tmp 196), a.eval (.tmp 197), a.eval (.tmp 198), a.eval (.tmp 199), a.eval (.tmp 200), a.eval (.tmp 201), a.eval (.tmp 202), a.eval (.tmp 203), a.eval (.tmp 204), a.eval (.tmp 205), a.eval (.tmp 206), a.eval (.tmp 207), a.eval (.tmp 208), a.eval (.tmp 209), a.eval (.tmp 210), a.eval (.tmp 211), a.eval (.tmp 212), a.eval (.tmp 213), a.eval (.tmp 214), a.eval (.tmp 215), a.eval (.tmp 216), a.eval (.tmp 217), a.eval (.tmp 218), a.eval (.tmp 219), a.eval (.tmp 220), a.eval (.tmp 221), a.eval (.tmp 222), a.eval (.tmp 223), a.eval (.tmp 224), a.eval (.tmp 225), a.eval (.tmp 226), a.eval (.tmp 227), a.eval (.tmp 228), a.eval (.tmp 229), a.eval (.tmp 230), a.eval (.tmp 231), a.eval (.tmp 232), a.eval (.tmp 233), a.eval (.tmp 234), a.eval (.tmp 235), a.eval (.tmp 236), a.eval (.tmp 237), a.eval (.tmp 238), a.eval (.tmp 239), a.eval (.tmp 240), a.eval (.tmp 241), a.eval (.tmp 242), a.eval (.tmp 243), a.eval (.tmp 244), a.eval (.tmp 245), ⟨lw 1 (by simp [rd2]), lw 2 (by simp [rd2]), lw 3 (by simp [rd2]), lw 4 (by simp [rd2]), b5, b6, b7, b8, l5, l6, l7, l8, hT3⟩, act_ext hkeep.2.1 hkeep.1⟩))
    · intro t ht
      simp only [rd2, List.mem_cons, List.not_mem_nil, or_false] at ht
      rcases ht with rfl | rfl | rfl | rfl <;> rfl

  clear hT hM s1 hbs1 hG1
  obtain ⟨q1, q2, q3, q4, b5, b6, b7, b8, q5, q6, q7, q8, hT3⟩ := hcut
  subst q1 q2 q3 q4 q5 q6 q7 q8
  rename World => w3
  have hG3 : GZ w3 := hG.below hT3.B
  have hbs3 := hT3.s.lt
  have hp3 := hT3.p
  have j5 := hT3.f (b5, m.a) (by simp)
  have j6 := hT3.f (b6, m.b) (by simp)
  have j7 := hT3.f (b7, m.c) (by simp)
  have j8 := hT3.f (b8, m.d) (by simp)
  go_upto_region 3 with fail
  go_cut [2, 3, 4, 5, 6, 7, 8, 9, 10, 11, 12] from 0 to 245 (rel3 w b4 b5 b6 b7 b8 m)
  case first =>
    rename_i J K' hJ hK
    refine region_sim (als := als3) (rd := rd3) (V := v3 (w.heap.size + 1 + 1) (w.heap.size + 1) b4 b5 b6 b7 b8 m) (J := RJ w3 (w.heap.size + 1 + 1) (badL (!mvalid m) (ns3 m)) als3 st3 z3c (cv3 m) 25) (base := 33) (L := ops3) mixO (by kernel_rfl) (ix_lt rfl) ok3 (reg3 w3 (w.heap.size + 1 + 1) (w.heap.size + 1) b4 b5 b6 b7 b8 (!mvalid m) m hbs3 (by omega) (by have := j5.1; simp only at this; omega) (by have := j6.1; simp only at this; omega) (by have := j7.1; simp only at this; omega) (by have := j8.1; simp only at this; omega) hp3.2 j5.2 j6.2 j7.2 j8.2) ?_ (by rw [ln3.1]; simp) ?_ (rj_start hT3.s)
    · intro mm a W hJW hmade hsz hkeep hlow hup hal
      rw [ln3.1, ln3.2] at hJW
      have hmd := made_of mk3 hmade
      have lw : ∀ t ∈ rd3, a.eval (.tmp t) = v3 (w.heap.size + 1 + 1) (w.heap.size + 1) b4 b5 b6 b7 b8 m t := fun t ht => hlow t (rdlt3 t ht).1 (rdlt3 t ht).2 (by simpa using ht)
      obtain ⟨b9, e9⟩ := hmd (9, 12) (by simp [als3])
      obtain ⟨g9, k9⟩ := hJW.b 9 b9 e9
      have l9 := hal 9 b9 rfl e9
      obtain ⟨b10, e10⟩ := hmd (10, 13) (by simp [als3])
      obtain ⟨g10, k10⟩ := hJW.b 10 b10 e10
      have l10 := hal 10 b10 rfl e10
      obtain ⟨b11, e11⟩ := hmd (11, 14) (by simp [als3])
      obtain ⟨g11, k11⟩ := hJW.b 11 b11 e11
      have l11 := hal 11 b11 rfl e11
      obtain ⟨b12, e12⟩ := hmd (12, 15) (by simp [als3])
      obtain ⟨g12, k12⟩ := hJW.b 12 b12 e12
      have l12 := hal 12 b12 rfl e12
      have hT4 := hT3.step hJW.X hJW.s
      have z := hT3.B.size
      have zl := hT3.s.lt
      have hT5 := (((hT4.more (f := vN (powerI m.a)) (by omega) k9).more (f := vN (powerI m.b)) (by omega) k10).more (f := vN (powerI m.c)) (by omega) k11).more (f := vN (powerI m.d)) (by omega) k12
      exact hK _ _ (Met.intro (hJ _ _ ⟨a.eval (.tmp 0), a.eval (.tmp 1), a.eval (.tmp 2), a.eval (.tmp 3), a.eval (.tmp 4), a.eval (.tmp 5), a.eval (.tmp 6), a.eval (.tmp 7), a.eval (.tmp 8), a.eval (.tmp 9), a.eval (.tmp 10), a.eval (.tmp 11), a.eval (.tmp 12), a.eval (.tmp 13), a.eval (.tmp 14), a.eval (.tmp 15), a.eval (.tmp 16), a.eval (.tmp 17), a.eval (.tmp 18), a.eval (.tmp 19), a.eval (.tmp 20), a.eval (.tmp 21), a.eval (.tmp 22), a.eval (.tmp 23), a.eval (.tmp 24), a.eval (.tmp 25), a.eval (.tmp 26), a.eval (.tmp 27), a.eval (.tmp 28), a.eval (.tmp 29), a.eval (.tmp 30), a.eval (.tmp 31), a.eval (.tmp 32), a.eval (.tmp 33), a.eval (.tmp 34), a.eval (.tmp 35), a.eval (.tmp 36), a.eval (.tmp 37), a.eval (.tmp 38), a.eval (.tmp 39), a.eval (.tmp 40), a.eval (.tmp 41), a.eval (.tmp 42), a.eval (.tmp 43), a.eval (.tmp 44), a.eval (.tmp 45), a.eval (.tmp 46), a.eval (.tmp 47), a.eval (.tmp 48), a.eval (.tmp 49), a.eval (.tmp 50), a.eval (.tmp 51), a.eval (.tmp 52), a.eval (.tmp 53), a.eval (.tmp 54), a.eval (.tmp 55), a.eval (.tmp 56), a.eval (.tmp 57), a.eval (.tmp 58), a.eval (.tmp 59), a.eval (.tmp 60), a.eval (.tmp 61), a.eval (.tmp 62), a.eval (.tmp 63), a.eval (.tmp 64), a.eval (.tmp 65), a.eval (.tmp 66), a.eval (.tmp 67), a.eval (.tmp 68), a.eval (.tmp 69), a.eval (.tmp 70), a.eval (.tmp 71), a.eval (.tmp 72), a.eval (.tmp 73), a.eval (.tmp 74), a.eval (.tmp 75), a.eval (.tmp 76), a.eval (.tmp 77), a.eval (.tmp 78), a.eval (.tmp 79), a.eval (.tmp 80), a.eval (.tmp 81), a.eval (.tmp 82), a.eval (.tmp 83), a.eval (.tmp 84), a.eval (.tmp 85), a.eval (.tmp 86), a.eval (.tmp 87), a.eval (.tmp 88), a.eval (.tmp 89), a.eval (.tmp 90), a.eval (.tmp 91), a.eval (.tmp 92), a.eval (.tmp 93), a.eval (.tmp 94), a.eval (.tmp 95), a.eval (.tmp 96), a.eval (.tmp 97), a.eval (.tmp 98), a.eval (.tmp 99), a.eval (.tmp 100), a.eval (.tmp 101), a.eval (.tmp 102), a.eval (.tmp 103), a.eval (.tmp 104), a.eval (.tmp 105), a.eval (.tmp 106), a.eval (.tmp 107), a.eval (.tmp 108), a.eval (.tmp 109), a.eval (.tmp 110), a.eval (.tmp 111), a.eval (.tmp 112), a.eval (.tmp 113), a.eval (.tmp 114), a.eval (.tmp 115), a.eval (.tmp 116), a.eval (.tmp 117), a.eval (.tmp 118), a.eval (.tmp 119), a.eval (.tmp 120), a.eval (.tmp 121), a.eval (.tmp 122), a.eval (.tmp 123), a.eval (.tmp 124), a.eval (.tmp 125), a.eval (.tmp 126), a.eval (.tmp 127), a.eval (.tmp 128), a.eval (.tmp 129), a.eval (.tmp 130), a.eval (.tmp 131), a.eval (.tmp 132), a.eval (.tmp 133), a.eval (.tmp 134), a.eval (.tmp 135), a.eval (.tmp 136), a.eval (.tmp 137), a.eval (.tmp 138), a.eval (.tmp 139), a.eval (.tmp 140), a.eval (.tmp 141), a.eval (.tmp 142), a.eval (.tmp 143), a.eval (.tmp 144), a.eval (.tmp 145), a.eval (.tmp 146), a.eval (.tmp 147), a.eval (.tmp 148), a.eval (.tmp 149), a.eval (.tmp 150), a.eval (.tmp 151), a.eval (.tmp 152), a.eval (.tmp 153), a.eval (.tmp 154), a.eval (.tmp 155), a.eval (.tmp 156), a.eval (.tmp 157), a.eval (.tmp 158), a.eval (.tmp 159), a.eval (.tmp 160), a.eval (.tmp 161), a.eval (.tmp 162), a.eval (.tmp 163), a.eval (.tmp 164), a.eval (.tmp 165), a.eval (.tmp 166), a.eval (.tmp 167), a.eval (.tmp 168), a.eval (.tmp 169), a.eval (.tmp 170), a.eval (.tmp 171), a.eval (.tmp 172), a.eval (.tmp 173), a.eval (.tmp 174), a.eval (.tmp 175), a.eval (.tmp 176), a.eval (.tmp 177), a.eval (.tmp 178), a.eval (.tmp 179), a.eval (.tmp 180), a.eval (.tmp 181), a.eval (.tmp 182), a.eval (.tmp 183), a.eval (.tmp 184), a.eval (.tmp 185), a.eval (.tmp 186), a.eval (.tmp 187), a.eval (.tmp 188), a.eval (.tmp 189), a.eval (.tmp 190), a.eval (.tmp 191), a.eval (.tmp 192), a.eval (.tmp 193), a.eval (.tmp 194), a.eval (.tmp 195), a.eval (.tmp 196), a.eval (.tmp 197), a.eval (.tmp 198), a.eval (.tmp 199), a.eval (.tmp 200), a.eval (.tmp 201), a.eval (.tmp 202), a.eval (.tmp 203), a.eval (.tmp 204), a.eval (.tmp 205), a.eval (.tmp 206), a.eval (.tmp 207), a.eval (.tmp 208), a.eval (.tmp 209), a.eval (.tmp 210), a.eval (.tmp 211), a.eval (.tmp 212), a.eval (.tmp 213), a.eval (.tmp 214), a.eval (.tmp 215), a.eval (.tmp 216), a.eval (.tmp 217), a.eval (.tmp 218), a.eval (.tmp 219), a.eval (.tmp 220), a.eval (.tmp 221), a.eval (.tmp 222), a.eval (.tmp 223), a.eval (.tmp 224), a.eval (.tmp 225), a.eval (.tmp 226), a.eval (.tmp 227), a.eval (.tmp 228), a.eval (.tmp 229), a.eval (.tmp 230), a.eval (.tmp 231), a.eval (.tmp 232), a.eval (.tmp 233), a.eval (.tmp 234), a.eval (.tmp 235), a.eval (.tmp 236), a.eval (.tmp 237), a.eval (.tmp 238), a.eval (.tmp 239), a.eval (.tmp 240), a.eval (.tmp 241), a.eval (.tmp 242), a.eval (.tmp 243), a.eval (.tmp 244), a.eval (.tmp 245), ⟨lw 2 (by simp [rd3]), lw 3 (by simp [rd3]), lw 4 (by simp [rd3]), lw 5 (by simp [rd3]), lw 6 (by simp [rd3]), lw 7 (by simp [rd3]), lw 8 (by simp [rd3]), b9, b10, b11, b12, l9, l10, l11, l12, hT5⟩, act_ext hkeep.2.1 hkeep.1⟩))
    · intro t ht
      simp only [rd3, List.mem_cons, List.not_mem_nil, or_false] at ht
      rcases ht with rfl | rfl | rfl | rfl | rfl | rfl | rfl <;> rfl

  clear hT3 hG3 hbs3 hp3 j5 j6 j7 j8
  obtain ⟨q2, q3, q4, q5, q6, q7, q8, b9, b10, b11, b12, q9, q10, q11, q12, hT5⟩ := hcut
  subst q2 q3 q4 q5 q6 q7 q8 q9 q10 q11 q12
  rename World => w5
  have hG5 : GZ w5 := hG.below hT5.B
  have hbs5 := hT5.s.lt
  have hp5 := hT5.p
  have j5 := hT5.f (b5, m.a) (by simp)
  have j6 := hT5.f (b6, m.b) (by simp)
  have j7 := hT5.f (b7, m.c) (by simp)
  have j8 := hT5.f (b8, m.d) (by simp)
  have j9 := hT5.f (b9, vN (powerI m.a)) (by simp)
  have j10 := hT5.f (b10, vN (powerI m.b)) (by simp)
  have j11 := hT5.f (b11, vN (powerI m.c)) (by simp)
  have j12 := hT5.f (b12, vN (powerI m.d)) (by simp)
  go_upto_region 6 with fail
  go_cut [2, 3, 4, 15] from 0 to 245 (rel6 w b4 ([] ++ [(b5, m.a)] ++ [(b6, m.b)] ++ [(b7, m.c)] ++ [(b8, m.d)] ++ [(b9, vN (powerI m.a))] ++ [(b10, vN (powerI m.b))] ++ [(b11, vN (powerI m.c))] ++ [(b12, vN (powerI m.d))]) m)
  case first =>
    rename_i J K' hJ hK
    refine region_sim (als := als6) (rd := rd6) (V := v6 (w.heap.size + 1 + 1) (w.heap.size + 1) b4 b5 b6 b7 b8 b9 b10 b11 b12 m.a m.b m.c m.d (vN (powerI m.a)) (vN (powerI m.b)) (vN (powerI m.c)) (vN (powerI m.d))) (J := RJ w5 (w.heap.size + 1 + 1) (badL (badL (!mvalid m) (ns3 m) 8) (entNs m.a m.b m.c m.d (vN (powerI m.a)) (vN (powerI m.b)) (vN (powerI m.c)) (vN (powerI m.d)))) als6 st6 (tbc zs16) (fun _ => tbc (entR m.a m.b m.c m.d (vN (powerI m.a)) (vN (powerI m.b)) (vN (powerI m.c)) (vN (powerI m.d)))) 44) (base := 47) (L := ops6) mixO (by kernel_rfl) (ix_lt rfl) ok6 (reg6 w5 (w.heap.size + 1 + 1) (w.heap.size + 1) b4 b5 b6 b7 b8 b9 b10 b11 b12 (badL (!mvalid m) (ns3 m) 8) m.a m.b m.c m.d (vN (powerI m.a)) (vN (powerI m.b)) (vN (powerI m.c)) (vN (powerI m.d)) hbs5 hG5 (by omega) hp5.1 (by omega) (by have := j5.1; simp only at this; omega) (by have := j6.1; simp only at this; omega) (by have := j7.1; simp only at this; omega) (by have := j8.1; simp only at this; omega) (by have := j9.1; simp only at this; omega) (by have := j10.1; simp only at this; omega) (by have := j11.1; simp only at this; omega) (by have := j12.1; simp only at this; omega) hp5.2 j5.2 j6.2 j7.2 j8.2 j9.2 j10.2 j11.2 j12.2) ?_ (by rw [ln6.1]; simp) ?_ (rj_start hT5.s)
    · intro mm a W hJW hmade hsz hkeep hlow hup hal
      rw [ln6.1, ln6.2] at hJW
      have hmd := made_of mk6 hmade
      have lw : ∀ t ∈ rd6, a.eval (.tmp t) = v6 (w.heap.size + 1 + 1) (w.heap.size + 1) b4 b5 b6 b7 b8 b9 b10 b11 b12 m.a m.b m.c m.d (vN (powerI m.a)) (vN (powerI m.b)) (vN (powerI m.c)) (vN (powerI m.d)) t := fun t ht => hlow t (rdlt6 t ht).1 (rdlt6 t ht).2 (by simpa using ht)
      obtain ⟨b15, e15⟩ := hmd (15, 194) (by simp [als6])
      obtain ⟨g15, k15⟩ := hJW.b 15 b15 e15
      have l15 := hal 15 b15 rfl e15
      have hT6 := hT5.step hJW.X hJW.s
      have z := hT5.B.size
      have zl := hT5.s.lt
      exact hK _ _ (Met.intro (hJ _ _ ⟨a.eval (.tmp 0), a.eval (.tmp 1), a.eval (.tmp 2), a.eval (.tmp 3), a.eval (.tmp 4), a.eval (.tmp 5), a.eval (.tmp 6), a.eval (.tmp 7), a.eval (.tmp 8), a.eval (.tmp 9), a.eval (.tmp 10), a.eval (.tmp 11), a.eval (.tmp 12), a.eval (.tmp 13), a.eval (.tmp 14), a.eval (.tmp 15), a.eval (.tmp 16), a.eval (.tmp 17), a.eval (.tmp 18), a.eval (.tmp 19), a.eval (.tmp 20), a.eval (.tmp 21), a.eval (.tmp 22), a.eval (.tmp 23), a.eval (.tmp 24), a.eval (.tmp 25), a.eval (.tmp 26), a.eval (.tmp 27), a.eval (.tmp 28), a.eval (.tmp 29), a.eval (.tmp 30), a.eval (.tmp 31), a.eval (.tmp 32), a.eval (.tmp 33), a.eval (.tmp 34), a.eval (.tmp 35), a.eval (.tmp 36), a.eval (.tmp 37), a.eval (.tmp 38), a.eval (.tmp 39), a.eval (.tmp 40), a.eval (.tmp 41), a.eval (.tmp 42), a.eval (.tmp 43), a.eval (.tmp 44), a.eval (.tmp 45), a.eval (.tmp 46), a.eval (.tmp 47), a.eval (.tmp 48), a.eval (.tmp 49), a.eval (.tmp 50), a.eval (.tmp 51), a.eval (.tmp 52), a.eval (.tmp 53), a.eval (.tmp 54), a.eval (.tmp 55), a.eval (.tmp 56), a.eval (.tmp 57), a.eval (.tmp 58), a.eval (.tmp 59), a.eval (.tmp 60), a.eval (.tmp 61), a.eval (.tmp 62), a.eval (.tmp 63), a.eval (.tmp 64), a.eval (.tmp 65), a.eval (.tmp 66), a.eval (.tmp 67), a.eval (.tmp 68), a.eval (.tmp 69), a.eval (.tmp 70), a.eval (.tmp 71), a.eval (.tmp 72), a.eval (.tmp 73), a.eval (.tmp 74), a.eval (.tmp 75), a.eval (.tmp 76), a.eval (.tmp 77), a.eval (.tmp 78), a.eval (.tmp 79), a.eval (.tmp 80), a.eval (.tmp 81), a.eval (.tmp 82), a.eval (.tmp 83), a.eval (.tmp 84), a.eval (.tmp 85), a.eval (.tmp 86), a.eval (.tmp 87), a.eval (.tmp 88), a.eval (.tmp 89), a.eval (.tmp 90), a.eval (.tmp 91), a.eval (.tmp 92), a.eval (.tmp 93), a.eval (.tmp 94), a.eval (.tmp 95), a.eval (.tmp 96), a.eval (.tmp 97), a.eval (.tmp 98), a.eval (.tmp 99), a.eval (.tmp 100), a.eval (.tmp 101), a.eval (.tmp 102), a.eval (.tmp 103), a.eval (.tmp 104), a.eval (.tmp 105), a.eval (.tmp 106), a.eval (.tmp 107), a.eval (.tmp 108), a.eval (.tmp 109), a.eval (.tmp 110), a.eval (.tmp 111), a.eval (.tmp 112), a.eval (.tmp 113), a.eval (.tmp 114), a.eval (.tmp 115), a.eval (.tmp 116), a.eval (.tmp 117), a.eval (.tmp 118), a.eval (.tmp 119), a.eval (.tmp 120), a.eval (.tmp 121), a.eval (.tmp 122), a.eval (.tmp 123), a.eval (.tmp 124), a.eval (.tmp 125), a.eval (.tmp 126), a.eval (.tmp 127), a.eval (.tmp 128), a.eval (.tmp 129), a.eval (.tmp 130), a.eval (.tmp 131), a.eval (.tmp 132), a.eval (.tmp 133), a.eval (.tmp 134), a.eval (.tmp 135), a.eval (.tmp 136), a.eval (.tmp 137), a.eval (.tmp 138), a.eval (.tmp 139), a.eval (.tmp 140), a.eval (.tmp 141), a.eval (.tmp 142), a.eval (.tmp 143), a.eval (.tmp 144), a.eval (.tmp 145), a.eval (.tmp 146), a.eval (.tmp 147), a.eval (.tmp 148), a.eval (.tmp 149), a.eval (.tmp 150), a.eval (.tmp 151), a.eval (.tmp 152), a.eval (.tmp 153), a.eval (.tmp 154), a.eval (.tmp 155), a.eval (.tmp 156), a.eval (.tmp 157), a.eval (.tmp 158), a.eval (.tmp 159), a.eval (.tmp 160), a.eval (.tmp 161), a.eval (.tmp 162), a.eval (.tmp 163), a.eval (.tmp 164), a.eval (.tmp 165), a.eval (.tmp 166), a.eval (.tmp 167), a.eval (.tmp 168), a.eval (.tmp 169), a.eval (.tmp 170), a.eval (.tmp 171), a.eval (.tmp 172), a.eval (.tmp 173), a.eval (.tmp 174), a.eval (.tmp 175), a.eval (.tmp 176), a.eval (.tmp 177), a.eval (.tmp 178), a.eval (.tmp 179), a.eval (.tmp 180), a.eval (.tmp 181), a.eval (.tmp 182), a.eval (.tmp 183), a.eval (.tmp 184), a.eval (.tmp 185), a.eval (.tmp 186), a.eval (.tmp 187), a.eval (.tmp 188), a.eval (.tmp 189), a.eval (.tmp 190), a.eval (.tmp 191), a.eval (.tmp 192), a.eval (.tmp 193), a.eval (.tmp 194), a.eval (.tmp 195), a.eval (.tmp 196), a.eval (.tmp 197), a.eval (.tmp 198), a.eval (.tmp 199), a.eval (.tmp 200), a.eval (.tmp 201), a.eval (.tmp 202), a.eval (.tmp 203), a.eval (.tmp 204), a.eval (.tmp 205), a.eval (.tmp 206), a.eval (.tmp 207), a.eval (.tmp 208), a.eval (.tmp 209), a.eval (.tmp 210), a.eval (.tmp 211), a.eval (.tmp 212), a.eval (.tmp 213), a.eval (.tmp 214), a.eval (.tmp 215), a.eval (.tmp 216), a.eval (.tmp 217), a.eval (.tmp 218), a.eval (.tmp 219), a.eval (.tmp 220), a.eval (.tmp 221), a.eval (.tmp 222), a.eval (.tmp 223), a.eval (.tmp 224), a.eval (.tmp 225), a.eval (.tmp 226), a.eval (.tmp 227), a.eval (.tmp 228), a.eval (.tmp 229), a.eval (.tmp 230), a.eval (.tmp 231), a.eval (.tmp 232), a.eval (.tmp 233), a.eval (.tmp 234), a.eval (.tmp 235), a.eval (.tmp 236), a.eval (.tmp 237), a.eval (.tmp 238), a.eval (.tmp 239), a.eval (.tmp 240), a.eval (.tmp 241), a.eval (.tmp 242), a.eval (.tmp 243), a.eval (.tmp 244), a.eval (.tmp 245), ⟨lw 2 (by simp [rd6]), lw 3 (by simp [rd6]), lw 4 (by simp [rd6]), b15, l15, by omega, k15, hT6⟩, act_ext hkeep.2.1 hkeep.1⟩))
    · intro t ht
      simp only [rd6, List.mem_cons, List.not_mem_nil, or_false] at ht
      rcases ht with rfl | rfl | rfl | rfl | rfl | rfl | rfl | rfl | rfl | rfl | rfl | rfl | rfl <;> rfl

  clear hT5 hG5 hbs5 hp5 j5 j6 j7 j8 j9 j10 j11 j12
  obtain ⟨q2, q3, q4, b15, q15, g15, k15, hT6⟩ := hcut
  subst q2 q3 q4 q15
  rename World => w6
  obtain ⟨XS, hXS⟩ : ∃ x, x = entR m.a m.b m.c m.d (vN (powerI m.a)) (vN (powerI m.b)) (vN (powerI m.c)) (vN (powerI m.d)) := ⟨_, rfl⟩
  have hXl : XS.length = 16 := by rw [hXS]; rfl
  rw [← hXS] at k15
  have HXS := Lib.hid hXS
  clear hXS
  have hp6 := hT6.p
  have hc4 : w6.cell? ⟨b4, 0, none⟩ = some (.pointer (some ⟨(w.heap.size + 1 + 1), 0, none⟩)) := by
    simp [World.cell?, hp6.2, ptv]
  cases hbb : (badL (badL (!mvalid m) (ns3 m) 8) (entNs m.a m.b m.c m.d (vN (powerI m.a)) (vN (powerI m.b)) (vN (powerI m.c)) (vN (powerI m.d))) 65)
  · have hs6 : SumIs w6 (w.heap.size + 1 + 1) false := hbb ▸ hT6.s
    have HBB := Lib.hid hbb
    clear hbb
    go_wp2_with (first | (refine wpList_load_row rfl 44 _ rfl b15 rfl 44 (tbc XS) (0, 0) _ k15 Tryz.underlying44 rfl (szTab XS hXl) ?_) | (go_at_call 49; (with_reducible refine (got_tabT XS (w.heap.size + 1 + 1) _ hXl hs6).mono ?_); rintro e w7 ⟨rfl, hb7⟩; have hr7 : TbIs w7 (w.heap.size + 1) zs16 := hT6.r.below hb7 hT6.r.lt; have hB7 : Below w.heap.size w w7 := bstep hT6.B hb7 hT6.B.size; clear hb7) | (refine wpList_store_row rfl 44 _ _ rfl (w.heap.size + 1) (tbc XS) rfl rfl 44 (tbc zs16) hr7 (szTab _ hXl) (by rw [tbc_size, tbc_size, hXl]; rfl) (tbc_one _) ?_))
    refine bodyPost_ret (v := tbb (tabM m)) ((results_row_slot Tryz.results12 _ _ (w.heap.size + 1) 44 (tbc XS) (0, 0) _ rfl (setRow_heap _ _ (tbc zs16) _ _ _ hr7) Tryz.underlying44 rfl (szTab _ hXl)).trans ?_) rfl ⟨rfl, below_setRow hB7 (by omega) _⟩
    unfold tabM
    rw [tab_bad, HBB.out, HXS.out]
    rfl
  · have hs6 : SumIs w6 (w.heap.size + 1 + 1) true := hbb ▸ hT6.s
    have HBB := Lib.hid hbb
    clear hbb
    go_wp2_with (first | (refine wpList_load_row rfl 44 _ rfl b15 rfl 44 (tbc XS) (0, 0) _ k15 Tryz.underlying44 rfl (szTab XS hXl) ?_) | (go_at_call 49; (with_reducible refine (got_tabF XS (w.heap.size + 1 + 1) _ hXl hs6).mono ?_); rintro e w7 ⟨rfl, hb7⟩; have hr7 : TbIs w7 (w.heap.size + 1) zs16 := hT6.r.below hb7 hT6.r.lt; have hB7 : Below w.heap.size w w7 := bstep hT6.B hb7 hT6.B.size; clear hb7) | (refine wpList_store_row rfl 44 _ _ rfl (w.heap.size + 1) (tbc zs16) rfl rfl 44 (tbc zs16) hr7 (szTab _ rfl) rfl (tbc_one _) ?_))
    refine bodyPost_ret (v := tbb (tabM m)) ((results_row_slot Tryz.results12 _ _ (w.heap.size + 1) 44 (tbc zs16) (0, 0) _ rfl (setRow_heap _ _ (tbc zs16) _ _ _ hr7) Tryz.underlying44 rfl (szTab _ rfl)).trans ?_) rfl ⟨rfl, below_setRow hB7 (by omega) _⟩
    unfold tabM
    rw [tab_bad, HBB.out, HXS.out]
    rfl
end
end Go.Proofs.YtodhbkinbcemnaaGreatDoor
