/-
  The walks of the program's StokesOf and PortTable.
-/
import Derived.Test.YtjbnkefeacineaaGreatDoorIn
import Derived.Test.YtjbnkefeacineaaGreatDoorIr
import Derived.Deep.CutRange
namespace Go.Proofs.YtjbnkefeacineaaGreatDoor
set_option linter.unusedSimpArgs false
set_option linter.unusedVariables false
open Go.RowKit
attribute [local go_sem ↓] Go.wp_at_zero Go.wp_at_succ
section
variable {w W : World} {bs : Nat} {bl : List (Nat × Array Value × TypeId)} {bad : Bool}
theorem qs_real (a v : Fr) (n : Bool) (hv : Hid ((realI a).getD Z3 = v ∧ (realI a).isNone = n)) (W : World) (h : QS w bs bl bad W) :
    Calls Tryz.prog 87 #[.pointer (some ⟨bs, 0, none⟩), frv a] W fun e w' => e = .returned (frv v) ∧ QS w bs bl (bad || n) w' := by
  rw [← hv.out.1, ← hv.out.2]
  exact (x_real a bs W (SumEx.of h.s)).mono fun e w' ⟨h1, hu, hx⟩ => ⟨h1, h.step hx (hu _ h.s)⟩
theorem qs_imag (a v : Fr) (n : Bool) (hv : Hid ((imagI a).getD Z3 = v ∧ (imagI a).isNone = n)) (W : World) (h : QS w bs bl bad W) :
    Calls Tryz.prog 88 #[.pointer (some ⟨bs, 0, none⟩), frv a] W fun e w' => e = .returned (frv v) ∧ QS w bs bl (bad || n) w' := by
  rw [← hv.out.1, ← hv.out.2]
  exact (x_imag a bs W (SumEx.of h.s)).mono fun e w' ⟨h1, hu, hx⟩ => ⟨h1, h.step hx (hu _ h.s)⟩
end
set_option maxRecDepth 100000 in
set_option maxHeartbeats 400000 in
theorem got_stokes (a : Mt) (bs : Nat) (w : World) (hs : SumEx w bs) :
    Calls Tryz.prog 86 #[.pointer (some ⟨bs, 0, none⟩), mtv a] w fun e w' => ∃ b, SumIs w bs b ∧ e = .returned (.tuple #[mtv (gotF b Z12 a), .bool (!b)]) ∧ Below w.heap.size w w' := by
  obtain ⟨bad, hs⟩ := hs
  suffices Calls Tryz.prog 86 #[.pointer (some ⟨bs, 0, none⟩), mtv a] w fun e w' => e = .returned (.tuple #[mtv (gotF bad Z12 a), .bool (!bad)]) ∧ Below w.heap.size w w' from
    this.mono fun _ _ ⟨h1, h2⟩ => ⟨bad, hs, h1, h2⟩
  have hlt := hs.lt
  have hcs := hs.cell
  have hne : w.heap.size ≠ bs ∧ w.heap.size + 1 ≠ bs ∧ w.heap.size + 1 + 1 ≠ bs := ⟨by omega, by omega, by omega⟩
  cases bad
  · go_enter Tryz.func86, Tryz.ntmps86
    go_wp2
    exact bodyPost_ret (v := .tuple #[mtv a, .bool true]) (by simp [results, Tryz.results86, go_sem, *]) rfl ⟨rfl, by exact below_⟩
  · go_enter Tryz.func86, Tryz.ntmps86
    go_wp2
    exact bodyPost_ret (v := .tuple #[mtv Z12, .bool false]) (by simp [results, Tryz.results86, go_sem, *]) rfl ⟨rfl, by exact below_⟩
theorem qs_gotM {w : World} {bs : Nat} {bl : List (Nat × Array Value × TypeId)} {bad : Bool} (a G : Mt) (ok : Bool) (hg : Hid (gotF bad Z12 a = G ∧ (!bad) = ok)) (W : World) (h : QS w bs bl bad W) :
    Calls Tryz.prog 86 #[.pointer (some ⟨bs, 0, none⟩), mtv a] W fun e w' => e = .returned (.tuple #[mtv G, .bool ok]) ∧ QS w bs bl bad w' := by
  rw [← hg.out.1, ← hg.out.2]
  refine (got_stokes a bs W (SumEx.of h.s)).mono ?_
  rintro e w' ⟨b, hb, rfl, hx⟩
  obtain rfl := hb.uniq h.s
  exact ⟨rfl, h.call hx⟩
theorem jv_parts {a : Jn} (h : jvalid a = true) : fvalid a.x = true ∧ fvalid a.y = true := by simpa [jvalid] using h
/-- The program's sums and the reference's calls say the same. -/
theorem stokes_same {a : Jn} {P Q M C S L D U E V : Fr} {p1 q1 m1 c1 s1 l1 d1 j1 e1 k1 : Bool} (h0 : (powerI a.x).getD Z3 = P ∧ (powerI a.x).isNone = p1) (h1 : (powerI a.y).getD Z3 = Q ∧ (powerI a.y).isNone = q1) (h2 : (mirrorI a.y).getD Z3 = M ∧ (mirrorI a.y).isNone = m1) (h3 : (timesI a.x M).getD Z3 = C ∧ (timesI a.x M).isNone = c1) (h4 : (addI P Q).getD Z3 = S ∧ (addI P Q).isNone = s1) (h5 : (lessI P Q).getD Z3 = L ∧ (lessI P Q).isNone = l1) (h6 : (realI C).getD Z3 = D ∧ (realI C).isNone = d1) (h7 : (timesI ⟨2, 0, 1⟩ D).getD Z3 = U ∧ (timesI ⟨2, 0, 1⟩ D).isNone = j1) (h8 : (imagI C).getD Z3 = E ∧ (imagI C).isNone = e1) (h9 : (timesI ⟨2, 0, 1⟩ E).getD Z3 = V ∧ (timesI ⟨2, 0, 1⟩ E).isNone = k1) :
    mtb (stokesI a) = .tuple #[mtv (gotF ((((((((((((false || !(jvalid a)) || p1) || q1) || m1) || c1) || s1) || l1) || d1) || j1) || e1) || k1)) Z12 ⟨S, L, U, V⟩), .bool (!(((((((((((false || !(jvalid a)) || p1) || q1) || m1) || c1) || s1) || l1) || d1) || j1) || e1) || k1))] := by
  unfold stokesI
  cases hv : jvalid a
  · cases hx : fvalid a.x
    · have g0 : powerI a.x = none := power_valid hx
      rw [g0]
      rfl
    · have hy : fvalid a.y = false := by
        cases hy : fvalid a.y
        · rfl
        · rw [jvalid, hx, hy] at hv; cases hv
      have g1 : powerI a.y = none := power_valid hy
      rw [g1]
      cases powerI a.x <;> rfl
  obtain ⟨hx, hy⟩ := jv_parts hv
  cases g0 : powerI a.x with
  | none => rw [g0] at h0; obtain ⟨-, rfl⟩ := h0; rfl
  | some px =>
    rw [g0] at h0
    obtain ⟨e0, rfl⟩ := h0
    obtain rfl : px = P := e0
    rw [Option.bind_some]
    cases g1 : powerI a.y with
    | none => rw [g1] at h1; obtain ⟨-, rfl⟩ := h1; rfl
    | some qx =>
      rw [g1] at h1
      obtain ⟨e1', rfl⟩ := h1
      obtain rfl : qx = Q := e1'
      rw [Option.bind_some]
      cases g2 : mirrorI a.y with
      | none => rw [g2] at h2; obtain ⟨-, rfl⟩ := h2; rfl
      | some mx =>
        rw [g2] at h2
        obtain ⟨e2, rfl⟩ := h2
        obtain rfl : mx = M := e2
        rw [Option.bind_some]
        cases g3 : timesI a.x mx with
        | none => rw [g3] at h3; obtain ⟨-, rfl⟩ := h3; rfl
        | some cx =>
          rw [g3] at h3
          obtain ⟨e3, rfl⟩ := h3
          obtain rfl : cx = C := e3
          rw [Option.bind_some]
          obtain ⟨d, hd, hd2⟩ := two_real (times_fvalid g3)
          obtain ⟨f, hf, hf2⟩ := two_imag (times_fvalid g3)
          rw [hd] at h6
          obtain ⟨e6, rfl⟩ := h6
          obtain rfl : d = D := e6
          rw [hf] at h8
          obtain ⟨e8, rfl⟩ := h8
          obtain rfl : f = E := e8
          rw [hd2] at h7
          rw [hf2] at h9
          cases g4 : addI px qx with
          | none => rw [g4] at h4; obtain ⟨-, rfl⟩ := h4; rfl
          | some sx =>
            rw [g4] at h4
            obtain ⟨e4, rfl⟩ := h4
            obtain rfl : sx = S := e4
            rw [Option.bind_some]
            cases g5 : lessI px qx with
            | none => rw [g5] at h5; obtain ⟨-, rfl⟩ := h5; rfl
            | some lx =>
              rw [g5] at h5
              obtain ⟨e5, rfl⟩ := h5
              obtain rfl : lx = L := e5
              rw [Option.bind_some]
              cases g7 : twiceI cx.re cx.den with
              | none => rw [g7] at h7; obtain ⟨-, rfl⟩ := h7; rfl
              | some ux =>
                rw [g7] at h7
                obtain ⟨e7, rfl⟩ := h7
                obtain rfl : ux = U := e7
                rw [Option.bind_some]
                cases g9 : twiceI cx.im cx.den with
                | none => rw [g9] at h9; obtain ⟨-, rfl⟩ := h9; rfl
                | some vx =>
                  rw [g9] at h9
                  obtain ⟨e9, rfl⟩ := h9
                  obtain rfl : vx = V := e9
                  rfl
theorem mixS : (Tryz.prog).follows .mixedOrders = true := by kernel_rfl
theorem szF : ((Tryz.prog).info? 24).map (·.size) = some 3 := by kernel_rfl
theorem run_allocF (w : World) : (Instr.alloc 24 true (.tuple #[])).run Tryz.prog w = .ok (.pointer (some ⟨w.heap.size, 0, none⟩)) (w.alloc (.cells z3c 24)) := by kernel_rfl
def badS (bad : Bool) (ns : List Bool) : Nat → Bool
  | 0 => bad
  | k + 1 => match ns[k]? with
    | some n => badS bad ns k || n
    | none => badS bad ns k
theorem jn_at {a : Jn} {w : World} {b : Nat} (h : Blk w b (jc a) 26) : FAt w b 0 a.x ∧ FAt w b 3 a.y := by
  obtain ⟨⟨z0, z1, z2, z3, z4, z5⟩, -⟩ := blk_j (a := a) h
  exact ⟨⟨z0, z1, z2⟩, z3, z4, z5⟩
theorem rj_loadF {W0 : World} {bs : Nat} {bad : Nat → Bool} {als : List (Nat × Nat)} {st : Nat → Nat} {cz : Array Value} {cv : Nat → Array Value} {ty : TypeId} {b o : Nat} {f : Fr} (hF : FAt W0 b o f) (hlt : b < W0.heap.size) (h1 : b ≠ bs) :
    ∀ m k w, RJ W0 bs bad als st cz cv ty m k w → (Instr.loadAt 24 (.pointer (some ⟨b, o, none⟩))).run Tryz.prog w = .ok (frv f) w := by
  intro m k w h
  have e := h.X.block b hlt h1
  obtain ⟨c0, c1, c2⟩ := hF
  have d0 := (World.cell?_of_block (w := W0) (w' := w) (a := ⟨b, o, none⟩) e).trans c0
  have d1 := (World.cell?_of_block (w := W0) (w' := w) (a := ⟨b, o + 1, none⟩) e).trans c1
  have d2 := (World.cell?_of_block (w := W0) (w' := w) (a := ⟨b, o + 2, none⟩) e).trans c2
  simp [go_sem, d0, d1, d2]
theorem QS.stepR {w W W' : World} {bs : Nat} {bl : List (Nat × Array Value × TypeId)} {bad bad' : Bool} (h : QS w bs bl bad W) (Y : BelX W.heap.size bs W W') (s : SumIs W' bs bad') : QS w bs bl bad' W' := h.step Y s
theorem QS.more {w W : World} {bs : Nat} {bl : List (Nat × Array Value × TypeId)} {bad : Bool} (h : QS w bs bl bad W) {b : Nat} {cs : Array Value} {ty : TypeId} (hb : w.heap.size ≤ b) (hn : b ≠ bs) (hc : Blk W b cs ty) : QS w bs ((b, cs, ty) :: bl) bad W :=
  ⟨h.B, h.s, fun q hq => by
    rcases List.mem_cons.1 hq with rfl | h1
    · exact ⟨hb, hn, hc⟩
    · exact h.g q h1, h.l⟩
theorem xn_power (a : Fr) (v : Fr) (n : Bool) (hv : Hid ((powerI a).getD Z3 = v ∧ (powerI a).isNone = n)) (bs : Nat) (w : World) (hs : SumEx w bs) :
    Calls Tryz.prog 80 [ptv bs, frv a].toArray w fun e w' => e = .returned (frv v) ∧ (∀ c, SumIs w bs c → SumIs w' bs (c || n)) ∧ BelX w.heap.size bs w w' := by
  rw [← hv.out.1, ← hv.out.2]
  exact x_power a bs w hs
theorem xn_mirror (a : Fr) (v : Fr) (n : Bool) (hv : Hid ((mirrorI a).getD Z3 = v ∧ (mirrorI a).isNone = n)) (bs : Nat) (w : World) (hs : SumEx w bs) :
    Calls Tryz.prog 84 [ptv bs, frv a].toArray w fun e w' => e = .returned (frv v) ∧ (∀ c, SumIs w bs c → SumIs w' bs (c || n)) ∧ BelX w.heap.size bs w w' := by
  rw [← hv.out.1, ← hv.out.2]
  exact x_mirror a bs w hs
theorem xn_times (a b : Fr) (v : Fr) (n : Bool) (hv : Hid ((timesI a b).getD Z3 = v ∧ (timesI a b).isNone = n)) (bs : Nat) (w : World) (hs : SumEx w bs) :
    Calls Tryz.prog 55 [ptv bs, frv a, frv b].toArray w fun e w' => e = .returned (frv v) ∧ (∀ c, SumIs w bs c → SumIs w' bs (c || n)) ∧ BelX w.heap.size bs w w' := by
  rw [← hv.out.1, ← hv.out.2]
  exact x_times a b bs w hs
noncomputable def opsS2 : List Oper := (regionAt Tryz.f51 2).toList
def rdS2 : List Nat := [1, 2, 3, 4]
def vS2 (bj br bs : Nat) (a : Jn) (P Q : Fr) (t : Nat) : Value := if t < 14 then nth [undef, ptv bj, ptv br, .bool false, ptv bs] t else nth [ptv bs, .pointer (some ⟨bj, 0, none⟩), frv a.x, frv P, ptv bs, .pointer (some ⟨bj, 3, none⟩), frv a.y, frv Q] (t - 14)
def alsS2 : List (Nat × Nat) := [(5, 8), (6, 9)]
def stS2 (t : Nat) : Nat := t - 3
def cvS2 (P Q : Fr) (t : Nat) : Array Value := if t = 5 then frc P else frc Q
theorem mkS2 : alsOk opsS2 alsS2 = true := by kernel_rfl
theorem lnS2 : opsS2.length = 12 ∧ callsTo opsS2 12 = 4 := ⟨by kernel_rfl, by kernel_rfl⟩
theorem okS2 : opsOk opsS2 14 rdS2 alsS2 none 0 opsS2 = true := by kernel_rfl
theorem rdltS2 : ∀ t ∈ rdS2, t < 14 ∧ ixOf alsS2 t = none := by decide
set_option maxRecDepth 100000 in
set_option maxHeartbeats 4000000 in
theorem regS2 (W0 : World) (bj br bs : Nat) (a : Jn) (P Q : Fr) (p1 q1 : Bool) (H0 : Hid ((powerI a.x).getD Z3 = P ∧ (powerI a.x).isNone = p1)) (H1 : Hid ((powerI a.y).getD Z3 = Q ∧ (powerI a.y).isNone = q1)) (bad : Bool) (hbs : bs < W0.heap.size) (hJ : Blk W0 bj (jc a) 26) (hlj : bj < W0.heap.size) (hnj : bj ≠ bs) :
    Obs alsS2 (vS2 bj br bs a P Q) opsS2 (RJ W0 bs (badS bad [p1, q1]) alsS2 stS2 z3c (cvS2 P Q) 24) Tryz.prog 14 0 0 opsS2 := by
    refine obs_move (i := 0) rfl rfl rfl rfl ?_
    refine obs_field (i := 1) rfl rfl rfl rfl (fun w => by kernel_rfl) ?_
    refine obs_load (i := 2) rfl rfl rfl rfl (rj_loadF (jn_at hJ).1 hlj hnj) ?_
    refine obs_call (i := 3) (k := 0) rfl rfl Tryz.func80 rfl rfl rfl rfl (rj_call [ptv bs, frv a.x] (frv P) hbs (ix_ne rfl) rfl (fun w h _ => xn_power a.x P p1 H0 bs w h)) ?_
    refine obs_move (i := 4) rfl rfl rfl rfl ?_
    refine obs_field (i := 5) rfl rfl rfl rfl (fun w => by kernel_rfl) ?_
    refine obs_load (i := 6) rfl rfl rfl rfl (rj_loadF (jn_at hJ).2 hlj hnj) ?_
    refine obs_call (i := 7) (k := 1) rfl rfl Tryz.func80 rfl rfl rfl rfl (rj_call [ptv bs, frv a.y] (frv Q) hbs (ix_ne rfl) rfl (fun w h _ => xn_power a.y Q q1 H1 bs w h)) ?_
    refine obs_alloc (i := 8) rfl rfl rfl (rj_alloc (t := 5) rfl run_allocF) ?_
    refine obs_alloc (i := 9) rfl rfl rfl (rj_alloc (t := 6) rfl run_allocF) ?_
    refine obs_store (i := 10) (k := 2) rfl rfl rfl rfl rfl (rj_store (t := 5) hbs rfl (ix_inj rfl) rfl rfl (frc_one _) szF) ?_
    refine obs_store (i := 11) (k := 3) rfl rfl rfl rfl rfl (rj_store (t := 6) hbs rfl (ix_inj rfl) rfl rfl (frc_one _) szF) ?_
    exact obs_nil rfl
noncomputable def opsS3 : List Oper := (regionAt Tryz.f51 3).toList
def rdS3 : List Nat := [1, 2, 3, 4, 5, 6]
def vS3 (bj br bs bP bQ : Nat) (a : Jn) (M C : Fr) (t : Nat) : Value := if t < 22 then nth [undef, ptv bj, ptv br, .bool false, ptv bs, ptv bP, ptv bQ] t else nth [ptv bs, .pointer (some ⟨bj, 0, none⟩), frv a.x, ptv bs, .pointer (some ⟨bj, 3, none⟩), frv a.y, frv M, frv C] (t - 22)
def alsS3 : List (Nat × Nat) := [(7, 8)]
def stS3 (t : Nat) : Nat := t - 5
def cvS3 (C : Fr) (t : Nat) : Array Value := frc C
theorem mkS3 : alsOk opsS3 alsS3 = true := by kernel_rfl
theorem lnS3 : opsS3.length = 10 ∧ callsTo opsS3 10 = 3 := ⟨by kernel_rfl, by kernel_rfl⟩
theorem okS3 : opsOk opsS3 22 rdS3 alsS3 none 0 opsS3 = true := by kernel_rfl
theorem rdltS3 : ∀ t ∈ rdS3, t < 22 ∧ ixOf alsS3 t = none := by decide
set_option maxRecDepth 100000 in
set_option maxHeartbeats 4000000 in
theorem regS3 (W0 : World) (bj br bs bP bQ : Nat) (a : Jn) (M C : Fr) (m1 c1 : Bool) (H2 : Hid ((mirrorI a.y).getD Z3 = M ∧ (mirrorI a.y).isNone = m1)) (H3 : Hid ((timesI a.x M).getD Z3 = C ∧ (timesI a.x M).isNone = c1)) (bad : Bool) (hbs : bs < W0.heap.size) (hJ : Blk W0 bj (jc a) 26) (hlj : bj < W0.heap.size) (hnj : bj ≠ bs) :
    Obs alsS3 (vS3 bj br bs bP bQ a M C) opsS3 (RJ W0 bs (badS bad [m1, c1]) alsS3 stS3 z3c (cvS3 C) 24) Tryz.prog 22 0 0 opsS3 := by
    refine obs_move (i := 0) rfl rfl rfl rfl ?_
    refine obs_field (i := 1) rfl rfl rfl rfl (fun w => by kernel_rfl) ?_
    refine obs_load (i := 2) rfl rfl rfl rfl (rj_loadF (jn_at hJ).1 hlj hnj) ?_
    refine obs_move (i := 3) rfl rfl rfl rfl ?_
    refine obs_field (i := 4) rfl rfl rfl rfl (fun w => by kernel_rfl) ?_
    refine obs_load (i := 5) rfl rfl rfl rfl (rj_loadF (jn_at hJ).2 hlj hnj) ?_
    refine obs_call (i := 6) (k := 0) rfl rfl Tryz.func84 rfl rfl rfl rfl (rj_call [ptv bs, frv a.y] (frv M) hbs (ix_ne rfl) rfl (fun w h _ => xn_mirror a.y M m1 H2 bs w h)) ?_
    refine obs_call (i := 7) (k := 1) rfl rfl Tryz.func55 rfl rfl rfl rfl (rj_call [ptv bs, frv a.x, frv M] (frv C) hbs (ix_ne rfl) rfl (fun w h _ => xn_times a.x M C c1 H3 bs w h)) ?_
    refine obs_alloc (i := 8) rfl rfl rfl (rj_alloc (t := 7) rfl run_allocF) ?_
    refine obs_store (i := 9) (k := 2) rfl rfl rfl rfl rfl (rj_store (t := 7) hbs rfl (ix_inj rfl) rfl rfl (frc_one _) szF) ?_
    exact obs_nil rfl
set_option maxRecDepth 100000 in
set_option maxHeartbeats 8000000 in
theorem stokes_any (a : Jn) (w : World) :
    Calls Tryz.prog 51 #[jnv a] w fun e w' => e = .returned (mtb (stokesI a)) ∧ Below w.heap.size w w' := by
  obtain ⟨P, p1, h0⟩ : ∃ q1 ok1, (powerI a.x).getD Z3 = q1 ∧ (powerI a.x).isNone = ok1 := ⟨_, _, rfl, rfl⟩
  obtain ⟨Q, q1, h1⟩ : ∃ q1 ok1, (powerI a.y).getD Z3 = q1 ∧ (powerI a.y).isNone = ok1 := ⟨_, _, rfl, rfl⟩
  obtain ⟨M, m1, h2⟩ : ∃ q1 ok1, (mirrorI a.y).getD Z3 = q1 ∧ (mirrorI a.y).isNone = ok1 := ⟨_, _, rfl, rfl⟩
  obtain ⟨C, c1, h3⟩ : ∃ q1 ok1, (timesI a.x M).getD Z3 = q1 ∧ (timesI a.x M).isNone = ok1 := ⟨_, _, rfl, rfl⟩
  obtain ⟨S, s1, h4⟩ : ∃ q1 ok1, (addI P Q).getD Z3 = q1 ∧ (addI P Q).isNone = ok1 := ⟨_, _, rfl, rfl⟩
  obtain ⟨L, l1, h5⟩ : ∃ q1 ok1, (lessI P Q).getD Z3 = q1 ∧ (lessI P Q).isNone = ok1 := ⟨_, _, rfl, rfl⟩
  obtain ⟨D, d1, h6⟩ : ∃ q1 ok1, (realI C).getD Z3 = q1 ∧ (realI C).isNone = ok1 := ⟨_, _, rfl, rfl⟩
  obtain ⟨U, j1, h7⟩ : ∃ q1 ok1, (timesI ⟨2, 0, 1⟩ D).getD Z3 = q1 ∧ (timesI ⟨2, 0, 1⟩ D).isNone = ok1 := ⟨_, _, rfl, rfl⟩
  obtain ⟨E, e1, h8⟩ : ∃ q1 ok1, (imagI C).getD Z3 = q1 ∧ (imagI C).isNone = ok1 := ⟨_, _, rfl, rfl⟩
  obtain ⟨V, k1, h9⟩ : ∃ q1 ok1, (timesI ⟨2, 0, 1⟩ E).getD Z3 = q1 ∧ (timesI ⟨2, 0, 1⟩ E).isNone = ok1 := ⟨_, _, rfl, rfl⟩
  have hgo := stokes_same h0 h1 h2 h3 h4 h5 h6 h7 h8 h9
  obtain ⟨R, hR⟩ : ∃ R, stokesI a = R := ⟨_, rfl⟩
  rw [hR] at hgo ⊢
  obtain ⟨va, hva⟩ : ∃ b, jvalid a = b := ⟨_, rfl⟩
  rw [hva] at hgo
  obtain ⟨G, ok, hG⟩ : ∃ G ok, gotF (((((((((((false || !va) || p1) || q1) || m1) || c1) || s1) || l1) || d1) || j1) || e1) || k1) Z12 ⟨S, L, U, V⟩ = G ∧ (!(((((((((((false || !va) || p1) || q1) || m1) || c1) || s1) || l1) || d1) || j1) || e1) || k1)) = ok := ⟨_, _, rfl, rfl⟩
  rw [hG.1, hG.2] at hgo
  have HG := Lib.hid hG
  clear hG
  have HR := Lib.hid hgo
  have HV := Lib.hid hva
  have H0 := Lib.hid h0
  have H1 := Lib.hid h1
  have H2 := Lib.hid h2
  have H3 := Lib.hid h3
  have H4 := Lib.hid h4
  have H5 := Lib.hid h5
  have H6 := Lib.hid h6
  have H7 := Lib.hid h7
  have H8 := Lib.hid h8
  have H9 := Lib.hid h9
  clear h0 h1 h2 h3 h4 h5 h6 h7 h8 h9 hgo hR hva
  go_enter Tryz.func51, Tryz.ntmps51
  obtain ⟨W0, hW, hW0⟩ : ∃ W, W = (w.alloc (.cells #[.int .i64 a.x.re, .int .i64 a.x.im, .int .i64 a.x.den, .int .i64 a.y.re, .int .i64 a.y.im, .int .i64 a.y.den] 26)).alloc (.cells #[.int .i64 0, .int .i64 0, .int .i64 0, .int .i64 0, .int .i64 0, .int .i64 0, .int .i64 0, .int .i64 0, .int .i64 0, .int .i64 0, .int .i64 0, .int .i64 0] 40) ∧ BW w [(w.heap.size + 1, mtc Z12, 40), (w.heap.size, jc a, 26)] W := by
    refine ⟨_, rfl, ?_⟩
    have h1 := BW.one w (jc a) 26
    have h2 := h1.push (Below.refl _ _) (mtc Z12) 40
    simp only [World.size_alloc] at h2
    exact h2
  go_upto_region 1 with fail
  rw [← hW]
  clear hW
  obtain ⟨q00, q01, q02, q03, q04, q05⟩ := (blk_j (a := a) (hW0.at (b := w.heap.size) (cs := jc a) (t := 26) (by simp))).1
  have q0l := blk_lt (hW0.at (b := w.heap.size) (cs := jc a) (t := 26) (by simp))
  have hz0 : W0.heap.size = w.heap.size + 1 + 1 ∨ True := .inr trivial
  have hq0 := hW0.qs
  obtain ⟨bs, hbs⟩ : ∃ b, b = W0.heap.size := ⟨_, rfl⟩
  have hbl : w.heap.size + 1 < bs := by rw [hbs]; exact blk_lt (hW0.at (b := w.heap.size + 1) (cs := mtc Z12) (t := 40) (by simp))
  have hJ0 := (Below.heap_alloc W0 (.cells #[.bool false] 70) w.heap.size (blk_lt (hW0.at (b := w.heap.size) (cs := jc a) (t := 26) (by simp)))).trans (hW0.at (b := w.heap.size) (cs := jc a) (t := 26) (by simp))
  obtain ⟨⟨z0, z1, z2, z3, z4, z5⟩, -⟩ := blk_j (a := a) hJ0
  go_upto_region 2 with (first | (go_at_call 76; (with_reducible refine (jvalid_any a _).mono ?_); rw [HV.out]; rintro e w1 ⟨rfl, hb⟩; have hq1 := hq0.call hb; clear hb) | (go_at_call 53; (with_reducible refine (x_need va W0.heap.size _ (SumEx.of hq1.s)).mono ?_); rintro e w2 ⟨rfl, hu, hx⟩; have hQ := hq1.step hx (hu _ hq1.s); clear hu hx))
  clear q00 q01 q02 q03 q04 q05 q0l z0 z1 z2 z3 z4 z5 hJ0 hq0 hq1 hz0
  rw [← hbs] at hQ ⊢
  clear hbs hW0
  have hJ2 := hQ.at (b := w.heap.size) (cs := jc a) (ty := 26) (by simp)
  have hQl := hQ.l
  have hlR2 := blk_lt (hQ.at (b := w.heap.size + 1) (cs := mtc Z12) (ty := 40) (by simp))
  go_cut [1, 2, 3, 4, 5, 6] from 0 to 56 (fun s1 s2 s3 s4 s5 s6 W => s1 = .pointer (some ⟨w.heap.size, 0, none⟩) ∧ s2 = .pointer (some ⟨w.heap.size + 1, 0, none⟩) ∧ s3 = .bool false ∧ s4 = .pointer (some ⟨bs, 0, none⟩) ∧ ∃ bP bQ : Nat, s5 = .pointer (some ⟨bP, 0, none⟩) ∧ s6 = .pointer (some ⟨bQ, 0, none⟩) ∧ bP ≠ bQ ∧ w.heap.size + 1 < bP ∧ w.heap.size + 1 < bQ ∧ QS w bs ([(bQ, frc Q, 24), (bP, frc P, 24), (w.heap.size + 1, mtc Z12, 40), (w.heap.size, jc a, 26)]) (((false || !va) || p1) || q1) W)
  case first =>
    rename_i J K' hJ hK
    refine region_sim (als := alsS2) (rd := rdS2) (V := vS2 w.heap.size (w.heap.size + 1) bs a P Q) (J := RJ w2 bs (badS (false || !va) [p1, q1]) alsS2 stS2 z3c (cvS2 P Q) 24) (base := 14) (L := opsS2) mixS (by kernel_rfl) (ix_lt rfl) okS2 (regS2 w2 w.heap.size (w.heap.size + 1) bs a P Q p1 q1 H0 H1 (false || !va) hQ.s.lt hJ2 (blk_lt hJ2) (by omega)) ?_ (by rw [lnS2.1]; simp) ?_ (rj_start hQ.s)
    · intro mm a' W hJW hmade hsz hkeep hlow hup hal
      rw [lnS2.1, lnS2.2] at hJW
      have hmd := made_of mkS2 hmade
      have lw : ∀ t ∈ rdS2, a'.eval (.tmp t) = vS2 w.heap.size (w.heap.size + 1) bs a P Q t := fun t ht => hlow t (rdltS2 t ht).1 (rdltS2 t ht).2 (by simpa using ht)
      obtain ⟨b5, e5⟩ := hmd (5, 8) (by simp [alsS2])
      obtain ⟨g5, k5⟩ := hJW.b 5 b5 e5
      have l5 := hal 5 b5 rfl e5
      obtain ⟨b6, e6⟩ := hmd (6, 9) (by simp [alsS2])
      obtain ⟨g6, k6⟩ := hJW.b 6 b6 e6
      have l6 := hal 6 b6 rfl e6
      have z0 := hQ.B.size
      have z1 := hQ.s.lt
      have hd : b5 ≠ b6 := fun e => by
        have := hJW.d 5 6 b5 e5 (e ▸ e6)
        omega
      have hQ2 := ((hQ.stepR hJW.X hJW.s).more (b := b5) (cs := frc P) (ty := 24) (by omega) (by omega) k5).more (b := b6) (cs := frc Q) (ty := 24) (by omega) (by omega) k6
      exact hK _ _ (Met.intro (hJ _ _ ⟨a'.eval (.tmp 0), a'.eval (.tmp 1), a'.eval (.tmp 2), a'.eval (.tmp 3), a'.eval (.tmp 4), a'.eval (.tmp 5), a'.eval (.tmp 6), a'.eval (.tmp 7), a'.eval (.tmp 8), a'.eval (.tmp 9), a'.eval (.tmp 10), a'.eval (.tmp 11), a'.eval (.tmp 12), a'.eval (.tmp 13), a'.eval (.tmp 14), a'.eval (.tmp 15), a'.eval (.tmp 16), a'.eval (.tmp 17), a'.eval (.tmp 18), a'.eval (.tmp 19), a'.eval (.tmp 20), a'.eval (.tmp 21), a'.eval (.tmp 22), a'.eval (.tmp 23), a'.eval (.tmp 24), a'.eval (.tmp 25), a'.eval (.tmp 26), a'.eval (.tmp 27), a'.eval (.tmp 28), a'.eval (.tmp 29), a'.eval (.tmp 30), a'.eval (.tmp 31), a'.eval (.tmp 32), a'.eval (.tmp 33), a'.eval (.tmp 34), a'.eval (.tmp 35), a'.eval (.tmp 36), a'.eval (.tmp 37), a'.eval (.tmp 38), a'.eval (.tmp 39), a'.eval (.tmp 40), a'.eval (.tmp 41), a'.eval (.tmp 42), a'.eval (.tmp 43), a'.eval (.tmp 44), a'.eval (.tmp 45), a'.eval (.tmp 46), a'.eval (.tmp 47), a'.eval (.tmp 48), a'.eval (.tmp 49), a'.eval (.tmp 50), a'.eval (.tmp 51), a'.eval (.tmp 52), a'.eval (.tmp 53), a'.eval (.tmp 54), a'.eval (.tmp 55), a'.eval (.tmp 56), ⟨lw 1 (by simp [rdS2]), lw 2 (by simp [rdS2]), lw 3 (by simp [rdS2]), lw 4 (by simp [rdS2]), b5, b6, l5, l6, hd, (by omega), (by omega), hQ2⟩, act_ext hkeep.2.1 hkeep.1⟩))
    · intro t ht
      simp only [rdS2, List.mem_cons, List.not_mem_nil, or_false] at ht
      rcases ht with rfl | rfl | rfl | rfl <;> rfl
  clear hQ hJ2 hlR2
  obtain ⟨q1', q2', q3', q4', bP, bQ, q5', q6', hPQ, hRP, hRQ, hQ⟩ := hcut
  subst q1' q2' q3' q4' q5' q6'
  rename World => w3
  go_upto_region 3 with fail
  have hJ2 := hQ.at (b := w.heap.size) (cs := jc a) (ty := 26) (by simp)
  have hlR2 := blk_lt (hQ.at (b := w.heap.size + 1) (cs := mtc Z12) (ty := 40) (by simp))
  have hP2 := (hQ.g (bP, frc P, 24) (by simp))
  have hQ2 := (hQ.g (bQ, frc Q, 24) (by simp))
  simp only at hP2 hQ2
  go_cut [1, 2, 3, 4, 5, 6, 7] from 0 to 56 (fun s1 s2 s3 s4 s5 s6 s7 W => s1 = .pointer (some ⟨w.heap.size, 0, none⟩) ∧ s2 = .pointer (some ⟨w.heap.size + 1, 0, none⟩) ∧ s3 = .bool false ∧ s4 = .pointer (some ⟨bs, 0, none⟩) ∧ s5 = .pointer (some ⟨bP, 0, none⟩) ∧ s6 = .pointer (some ⟨bQ, 0, none⟩) ∧ ∃ bC : Nat, s7 = .pointer (some ⟨bC, 0, none⟩) ∧ w.heap.size + 1 < bC ∧ QS w bs ((bC, frc C, 24) :: [(bQ, frc Q, 24), (bP, frc P, 24), (w.heap.size + 1, mtc Z12, 40), (w.heap.size, jc a, 26)]) (((((false || !va) || p1) || q1) || m1) || c1) W)
  case first =>
    rename_i J K' hJ hK
    refine region_sim (als := alsS3) (rd := rdS3) (V := vS3 w.heap.size (w.heap.size + 1) bs bP bQ a M C) (J := RJ w3 bs (badS (((false || !va) || p1) || q1) [m1, c1]) alsS3 stS3 z3c (cvS3 C) 24) (base := 22) (L := opsS3) mixS (by kernel_rfl) (ix_lt rfl) okS3 (regS3 w3 w.heap.size (w.heap.size + 1) bs bP bQ a M C m1 c1 H2 H3 (((false || !va) || p1) || q1) hQ.s.lt hJ2 (blk_lt hJ2) (by omega)) ?_ (by rw [lnS3.1]; simp) ?_ (rj_start hQ.s)
    · intro mm a' W hJW hmade hsz hkeep hlow hup hal
      rw [lnS3.1, lnS3.2] at hJW
      have hmd := made_of mkS3 hmade
      have lw : ∀ t ∈ rdS3, a'.eval (.tmp t) = vS3 w.heap.size (w.heap.size + 1) bs bP bQ a M C t := fun t ht => hlow t (rdltS3 t ht).1 (rdltS3 t ht).2 (by simpa using ht)
      obtain ⟨b7, e7⟩ := hmd (7, 8) (by simp [alsS3])
      obtain ⟨g7, k7⟩ := hJW.b 7 b7 e7
      have l7 := hal 7 b7 rfl e7
      have z0 := hQ.B.size
      have z1 := hQ.s.lt
      have hQ3 := (hQ.stepR hJW.X hJW.s).more (b := b7) (cs := frc C) (ty := 24) (by omega) (by omega) k7
      exact hK _ _ (Met.intro (hJ _ _ ⟨a'.eval (.tmp 0), a'.eval (.tmp 1), a'.eval (.tmp 2), a'.eval (.tmp 3), a'.eval (.tmp 4), a'.eval (.tmp 5), a'.eval (.tmp 6), a'.eval (.tmp 7), a'.eval (.tmp 8), a'.eval (.tmp 9), a'.eval (.tmp 10), a'.eval (.tmp 11), a'.eval (.tmp 12), a'.eval (.tmp 13), a'.eval (.tmp 14), a'.eval (.tmp 15), a'.eval (.tmp 16), a'.eval (.tmp 17), a'.eval (.tmp 18), a'.eval (.tmp 19), a'.eval (.tmp 20), a'.eval (.tmp 21), a'.eval (.tmp 22), a'.eval (.tmp 23), a'.eval (.tmp 24), a'.eval (.tmp 25), a'.eval (.tmp 26), a'.eval (.tmp 27), a'.eval (.tmp 28), a'.eval (.tmp 29), a'.eval (.tmp 30), a'.eval (.tmp 31), a'.eval (.tmp 32), a'.eval (.tmp 33), a'.eval (.tmp 34), a'.eval (.tmp 35), a'.eval (.tmp 36), a'.eval (.tmp 37), a'.eval (.tmp 38), a'.eval (.tmp 39), a'.eval (.tmp 40), a'.eval (.tmp 41), a'.eval (.tmp 42), a'.eval (.tmp 43), a'.eval (.tmp 44), a'.eval (.tmp 45), a'.eval (.tmp 46), a'.eval (.tmp 47), a'.eval (.tmp 48), a'.eval (.tmp 49), a'.eval (.tmp 50), a'.eval (.tmp 51), a'.eval (.tmp 52), a'.eval (.tmp 53), a'.eval (.tmp 54), a'.eval (.tmp 55), a'.eval (.tmp 56), ⟨lw 1 (by simp [rdS3]), lw 2 (by simp [rdS3]), lw 3 (by simp [rdS3]), lw 4 (by simp [rdS3]), lw 5 (by simp [rdS3]), lw 6 (by simp [rdS3]), b7, l7, (by omega), hQ3⟩, act_ext hkeep.2.1 hkeep.1⟩))
    · intro t ht
      simp only [rdS3, List.mem_cons, List.not_mem_nil, or_false] at ht
      rcases ht with rfl | rfl | rfl | rfl | rfl | rfl <;> rfl
  clear hQ hJ2 hP2 hQ2 hlR2
  obtain ⟨q1', q2', q3', q4', q5', q6', bC, q7', hRC, hQ⟩ := hcut
  subst q1' q2' q3' q4' q5' q6' q7'
  rename World => w4
  go_upto_region 5 with (first | (go_at_call 85; (with_reducible refine (whole_any 2 _).mono ?_); rintro e w5 ⟨rfl, hb⟩))
  obtain ⟨bT, hbT⟩ : ∃ b, b = w5.heap.size := ⟨_, rfl⟩
  have hlR2 := blk_lt (hQ.at (b := w.heap.size + 1) (cs := mtc Z12) (ty := 40) (by simp))
  obtain ⟨W5, hW5, hRT, hQ5⟩ : ∃ W, W = w5.alloc (.cells #[.int .i64 2, .int .i64 0, .int .i64 1] 24) ∧ w.heap.size + 1 < bT ∧ QS w bs ((bT, frc ⟨2, 0, 1⟩, 24) :: (bC, frc C, 24) :: [(bQ, frc Q, 24), (bP, frc P, 24), (w.heap.size + 1, mtc Z12, 40), (w.heap.size, jc a, 26)]) (((((false || !va) || p1) || q1) || m1) || c1) W := by
    refine ⟨_, rfl, by have := hb.size; omega, ?_⟩
    have h5 := (hQ.call hb).alloc (.cells #[.int .i64 2, .int .i64 0, .int .i64 1] 24)
    have z5 := hQ.s.lt
    have z6 := hQ.B.size
    have z7 := hb.size
    exact h5.more (by omega) (by omega) (by rw [hbT]; exact heap_alloc_last w5 _)
  rw [← hW5, ← hbT]
  clear hW5 hbT hb hQ hlR2
  have hgP := (hQ5.g (bP, frc P, 24) (by simp))
  have hgQ := (hQ5.g (bQ, frc Q, 24) (by simp))
  have hgC := (hQ5.g (bC, frc C, 24) (by simp))
  have hgT := (hQ5.g (bT, frc ⟨2, 0, 1⟩, 24) (by simp))
  have hlR := blk_lt (hQ5.at (b := w.heap.size + 1) (cs := mtc Z12) (ty := 40) (by simp))
  have hQl := hQ5.l
  have HSUB : Hid (∀ W bad, QS w (bs) ((bT, frc ⟨2, 0, 1⟩, 24) :: (bC, frc C, 24) :: [(bQ, frc Q, 24), (bP, frc P, 24), (w.heap.size + 1, mtc Z12, 40), (w.heap.size, jc a, 26)]) bad W → QSE w (bs) [(bT, frc ⟨2, 0, 1⟩, 24), (bC, frc C, 24), (bQ, frc Q, 24), (bP, frc P, 24)] W) := Lib.hid (fun W bad h => ⟨_, h.sub (by intro q hq; simp only [List.mem_cons, List.not_mem_nil, or_false] at hq; rcases hq with rfl | rfl | rfl | rfl <;> simp)⟩)
  have HS : Hid (∀ W, QSE w (bs) [(bT, frc ⟨2, 0, 1⟩, 24), (bC, frc C, 24), (bQ, frc Q, 24), (bP, frc P, 24)] W → (fun w' => w'.cell? ⟨bT, 0, none⟩ = some (.int .i64 2) ∧ w'.cell? ⟨bT, 1, none⟩ = some (.int .i64 0) ∧ w'.cell? ⟨bT, 2, none⟩ = some (.int .i64 1) ∧ w'.cell? ⟨bC, 0, none⟩ = some (.int .i64 C.re) ∧ w'.cell? ⟨bC, 1, none⟩ = some (.int .i64 C.im) ∧ w'.cell? ⟨bC, 2, none⟩ = some (.int .i64 C.den) ∧ w'.cell? ⟨bQ, 0, none⟩ = some (.int .i64 Q.re) ∧ w'.cell? ⟨bQ, 1, none⟩ = some (.int .i64 Q.im) ∧ w'.cell? ⟨bQ, 2, none⟩ = some (.int .i64 Q.den) ∧ w'.cell? ⟨bP, 0, none⟩ = some (.int .i64 P.re) ∧ w'.cell? ⟨bP, 1, none⟩ = some (.int .i64 P.im) ∧ w'.cell? ⟨bP, 2, none⟩ = some (.int .i64 P.den)) W) := Lib.hid (fun W hE => by
    obtain ⟨bad, h⟩ := hE
    obtain ⟨c00, c01, c02⟩ := blk_fr0 (f := ⟨2, 0, 1⟩) (h.at (b := bT) (cs := frc ⟨2, 0, 1⟩) (ty := 24) (by simp))
    obtain ⟨c10, c11, c12⟩ := blk_fr0 (f := C) (h.at (b := bC) (cs := frc C) (ty := 24) (by simp))
    obtain ⟨c20, c21, c22⟩ := blk_fr0 (f := Q) (h.at (b := bQ) (cs := frc Q) (ty := 24) (by simp))
    obtain ⟨c30, c31, c32⟩ := blk_fr0 (f := P) (h.at (b := bP) (cs := frc P) (ty := 24) (by simp))
    exact ⟨c00, c01, c02, c10, c11, c12, c20, c21, c22, c30, c31, c32⟩)
  have HN : Hid (∀ q ∈ ([(bT, frc ⟨2, 0, 1⟩, 24), (bC, frc C, 24), (bQ, frc Q, 24), (bP, frc P, 24)] : List (Nat × Array Value × TypeId)), q.1 ≠ w.heap.size + 1) := Lib.hid (by intro q hq; simp only [List.mem_cons, List.not_mem_nil, or_false] at hq; rcases hq with rfl | rfl | rfl | rfl <;> (first | (simp only; omega) | omega | (simp; omega)))
  go_region_held3 (fun w' => w'.cell? ⟨bT, 0, none⟩ = some (.int .i64 2) ∧ w'.cell? ⟨bT, 1, none⟩ = some (.int .i64 0) ∧ w'.cell? ⟨bT, 2, none⟩ = some (.int .i64 1) ∧ w'.cell? ⟨bC, 0, none⟩ = some (.int .i64 C.re) ∧ w'.cell? ⟨bC, 1, none⟩ = some (.int .i64 C.im) ∧ w'.cell? ⟨bC, 2, none⟩ = some (.int .i64 C.den) ∧ w'.cell? ⟨bQ, 0, none⟩ = some (.int .i64 Q.re) ∧ w'.cell? ⟨bQ, 1, none⟩ = some (.int .i64 Q.im) ∧ w'.cell? ⟨bQ, 2, none⟩ = some (.int .i64 Q.den) ∧ w'.cell? ⟨bP, 0, none⟩ = some (.int .i64 P.re) ∧ w'.cell? ⟨bP, 1, none⟩ = some (.int .i64 P.im) ∧ w'.cell? ⟨bP, 2, none⟩ = some (.int .i64 P.den)) (((refine HS.out _ ?_); (repeat' (first | (with_reducible assumption) | (with_reducible exact HSUB.out _ _ (by with_reducible assumption)) | (with_reducible apply QSE.alloc) | (with_reducible apply QSE.drewN) | (with_reducible apply QSE.drew) | ((with_reducible refine QSE.far ?_ ?_ ?_ ?_ _) <;> (first | (with_reducible exact HN.out) | (simp; done) | omega | (simp; omega) | skip)))))) (first | (go_at_call 56; (with_reducible refine (qs_add P Q S s1 H4 _ (by (repeat' (first | (with_reducible assumption) | (with_reducible apply QS.alloc) | (with_reducible apply QS.drewN) | (with_reducible apply QS.drew))))).mono ?_); rintro e wd ⟨rfl, hD⟩; have hBd := hD.B; have hld := hD.s.lt) | (go_at_call 62; (with_reducible refine (qs_less P Q L l1 H5 _ (by (repeat' (first | (with_reducible assumption) | (with_reducible apply QS.alloc) | (with_reducible apply QS.drewN) | (with_reducible apply QS.drew))))).mono ?_); rintro e wd ⟨rfl, hD⟩; have hBd := hD.B; have hld := hD.s.lt) | (go_at_call 87; (with_reducible refine (qs_real C D d1 H6 _ (by (repeat' (first | (with_reducible assumption) | (with_reducible apply QS.alloc) | (with_reducible apply QS.drewN) | (with_reducible apply QS.drew))))).mono ?_); rintro e wd ⟨rfl, hD⟩; have hBd := hD.B; have hld := hD.s.lt) | (go_at_call 55; (with_reducible refine (qs_times ⟨2, 0, 1⟩ D U j1 H7 _ (by (repeat' (first | (with_reducible assumption) | (with_reducible apply QS.alloc) | (with_reducible apply QS.drewN) | (with_reducible apply QS.drew))))).mono ?_); rintro e wd ⟨rfl, hD⟩; have hBd := hD.B; have hld := hD.s.lt) | (go_at_call 88; (with_reducible refine (qs_imag C E e1 H8 _ (by (repeat' (first | (with_reducible assumption) | (with_reducible apply QS.alloc) | (with_reducible apply QS.drewN) | (with_reducible apply QS.drew))))).mono ?_); rintro e wd ⟨rfl, hD⟩; have hBd := hD.B; have hld := hD.s.lt) | (go_at_call 55; (with_reducible refine (qs_times ⟨2, 0, 1⟩ E V k1 H9 _ (by (repeat' (first | (with_reducible assumption) | (with_reducible apply QS.alloc) | (with_reducible apply QS.drewN) | (with_reducible apply QS.drew))))).mono ?_); rintro e wd ⟨rfl, hD⟩; have hBd := hD.B; have hld := hD.s.lt) | (go_at_call 86; (with_reducible refine (qs_gotM ⟨S, L, U, V⟩ G ok HG _ (by (repeat' (first | (with_reducible assumption) | (with_reducible apply QS.alloc) | (with_reducible apply QS.drewN) | (with_reducible apply QS.drew))))).mono ?_); rintro e wd ⟨rfl, hD⟩; have hBd := hD.B; have hld := hD.s.lt; obtain ⟨r0, r1, r2, r3, r4, r5, r6, r7, r8, r9, r10, r11⟩ := blk_mt (m := Z12) (hD.at (b := w.heap.size + 1) (cs := mtc Z12) (ty := 40) (by simp)); have r12 := blk_free0 (hD.at (b := w.heap.size + 1) (cs := mtc Z12) (ty := 40) (by simp))))
  all_goals (go_wp2; refine bodyPost_ret (v := .tuple #[mtv G, .bool ok]) (by simp [results, Tryz.results51, go_sem, *]) rfl ⟨by rw [HR.out], by exact below_⟩)
theorem stokes_m (a : Jn) (m : Mt) (ok : Bool) (w : World) (e : Hid ((stokesI a).getD Z12 = m ∧ (stokesI a).isSome = ok)) : Calls Tryz.prog 51 #[jnv a] w fun e w' => e = .returned (.tuple #[mtv m, .bool ok]) ∧ Below w.heap.size w w' := by
  rw [← e.out.1, ← e.out.2]; exact stokes_any a w
set_option maxRecDepth 100000 in
set_option maxHeartbeats 8000000 in
theorem table_any (a b : ByteArray) (k : Int) (v : Jn) (w : World) (ha : a.size ≤ 1048576) (hb2 : b.size ≤ 1048576) (hGP : GP w) :
    Calls Tryz.prog 18 #[.string a, .string b, .int .i64 k, jnv v] w fun e w' => e = .returned (mtb (tableI a.data.toList b.data.toList k v)) ∧ Below w.heap.size w w' := by
  obtain ⟨X, p, hX⟩ : ∃ X p, (portI a.data.toList b.data.toList k v false).getD Z6 = X ∧ (portI a.data.toList b.data.toList k v false).isSome = p := ⟨_, _, rfl, rfl⟩
  obtain ⟨m, ok, hm⟩ : ∃ m ok, (stokesI X).getD Z12 = m ∧ (stokesI X).isSome = ok := ⟨_, _, rfl, rfl⟩
  obtain ⟨R, hR⟩ : ∃ R, tableI a.data.toList b.data.toList k v = R := ⟨_, rfl⟩
  have hgo := table_go hX
  rw [hR] at hgo ⊢
  have HR := Lib.hid hgo
  have HX := Lib.hid hX
  have HM := Lib.hid hm
  clear hX hm hR hgo
  go_enter Tryz.func18, Tryz.ntmps18
  obtain ⟨W0, hW, hW0⟩ : ∃ W, W = (w.alloc (.cells #[.int .i64 v.x.re, .int .i64 v.x.im, .int .i64 v.x.den, .int .i64 v.y.re, .int .i64 v.y.im, .int .i64 v.y.den] 26)).alloc (.cells #[.int .i64 0, .int .i64 0, .int .i64 0, .int .i64 0, .int .i64 0, .int .i64 0, .int .i64 0, .int .i64 0, .int .i64 0, .int .i64 0, .int .i64 0, .int .i64 0] 40) ∧ BW w [(w.heap.size + 1, mtc Z12, 40), (w.heap.size, jc v, 26)] W := by
    refine ⟨_, rfl, ?_⟩
    have h1 := BW.one w (jc v) 26
    have h2 := h1.push (Below.refl _ _) (mtc Z12) 40
    simp only [World.size_alloc] at h2
    exact h2
  go_upto_region 1 with fail
  rw [← hW]
  clear hW
  obtain ⟨q00, q01, q02, q03, q04, q05⟩ := (blk_j (a := v) (hW0.at (b := w.heap.size) (cs := jc v) (t := 26) (by simp))).1
  have q0l := blk_lt (hW0.at (b := w.heap.size) (cs := jc v) (t := 26) (by simp))
  go_upto_region 2 with (first | (go_at_call 29; (with_reducible refine (port_m a b k v false X p _ ha hb2 (hGP.below hW0.B) HX).mono ?_); rintro e v1 ⟨rfl, hb⟩))
  have hP := hW0.push hb (jc X) 26
  obtain ⟨bX, hbb⟩ : ∃ b, b = v1.heap.size := ⟨_, rfl⟩
  have hbu := hb.size
  obtain ⟨W1, hW, hWr⟩ : ∃ W, W = v1.alloc (.cells #[.int .i64 X.x.re, .int .i64 X.x.im, .int .i64 X.x.den, .int .i64 X.y.re, .int .i64 X.y.im, .int .i64 X.y.den] 26) ∧ W = v1.alloc (.cells (jc X) 26) := ⟨_, rfl, rfl⟩
  rw [← hbb, ← hWr] at hP
  rw [← hbb] at hbu
  rw [← hW, ← hbb]
  have hW1 := hP
  clear hP hb hW hWr hW0
  clear hbb hbu
  clear q00 q01 q02 q03 q04 q05 q0l
  cases p
  · skip
    obtain ⟨q10, q11, q12, q13, q14, q15, q16, q17, q18, q19, q110, q111⟩ := blk_mt (m := Z12) (hW1.at (b := w.heap.size + 1) (cs := mtc Z12) (t := 40) (by simp))
    have q1l := blk_lt (hW1.at (b := w.heap.size + 1) (cs := mtc Z12) (t := 40) (by simp))
    have q1f := blk_free0 (hW1.at (b := w.heap.size + 1) (cs := mtc Z12) (t := 40) (by simp))
    have hBF := hW1.B
    go_wp2
    exact bodyPost_ret (v := mtb none) (by simp [results, Tryz.results18, go_sem, *]) rfl ⟨by rw [HR.out]; rfl, by exact below_⟩
  obtain ⟨q10, q11, q12, q13, q14, q15, q16, q17, q18, q19, q110, q111⟩ := blk_mt (m := Z12) (hW1.at (b := w.heap.size + 1) (cs := mtc Z12) (t := 40) (by simp))
  have q1l := blk_lt (hW1.at (b := w.heap.size + 1) (cs := mtc Z12) (t := 40) (by simp))
  have q1f := blk_free0 (hW1.at (b := w.heap.size + 1) (cs := mtc Z12) (t := 40) (by simp))
  obtain ⟨q20, q21, q22, q23, q24, q25⟩ := (blk_j (a := X) (hW1.at (b := bX) (cs := jc X) (t := 26) (by simp))).1
  have q2l := blk_lt (hW1.at (b := bX) (cs := jc X) (t := 26) (by simp))
  have hBF := hW1.B
  go_wp2_with (first | (go_at_call 51; (with_reducible refine (stokes_m X m ok _ HM).mono ?_); rintro e w9 ⟨rfl, hb⟩; have hQ := hW1.step hb; have hR := hQ.at (b := w.heap.size + 1) (cs := mtc Z12) (t := 40) (by simp); have hRf := blk_free0 hR; obtain ⟨y0, y1, y2, y3, y4, y5, y6, y7, y8, y9, y10, y11⟩ := blk_mt hR; have hRl := blk_lt hR; have hBF := hQ.B; clear hb))
  exact bodyPost_ret (v := .tuple #[mtv m, .bool ok]) (by simp [results, Tryz.results18, mtv, go_sem, *]) rfl ⟨by rw [HR.out, ← HM.out.1, ← HM.out.2]; rfl, by exact below_⟩
end Go.Proofs.YtjbnkefeacineaaGreatDoor
