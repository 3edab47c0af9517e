/-
  Texts of this claim, joined: Ih; Ij. Nothing is claimed here; the other texts of this claim use it.
-/
import Derived.Test.YtjbnkefeacineaaGreatDoorJc
import Derived.Test.YtjbnkefeacineaaGreatDoorIa
import Derived.Test.YtjbnkefeacineaaGreatDoorJh
import Derived.Test.YtjbnkefeacineaaGreatDoorMu
import Derived.Test.YtjbnkefeacineaaGreatDoorJe
namespace Go.Proofs.YtjbnkefeacineaaGreatDoor
set_option linter.unusedSimpArgs false
set_option linter.unusedVariables false
section
open Go.RowKit
attribute [local go_sem ↓] Go.wp_at_zero Go.wp_at_succ
/-- What the program's ports ask of the variables. -/
structure GP (w : World) : Prop where
  l : GL w
  o : GO w
  z : GZ w
  t : GT w
theorem GP.below {w w' : World} (h : GP w) (hb : Below w.heap.size w w') : GP w' := ⟨h.l.below hb, h.o.below hb, h.z.below hb, h.t.below hb⟩
/-- Blocks kept beside a reckoning of the call's own. -/
structure QS (w : World) (bs : Nat) (bl : List (Nat × Array Value × TypeId)) (bad : Bool) (W : World) : Prop where
  B : Below w.heap.size w W
  s : SumIs W bs bad
  g : ∀ q ∈ bl, w.heap.size ≤ q.1 ∧ q.1 ≠ bs ∧ Blk W q.1 q.2.1 q.2.2
  l : w.heap.size ≤ bs
section
variable {w W W' : World} {bs : Nat} {bl : List (Nat × Array Value × TypeId)} {bad bad' : Bool}
theorem QS.step (h : QS w bs bl bad W) (Y : BelX W.heap.size bs W W') (s : SumIs W' bs bad') : QS w bs bl bad' W' :=
  ⟨h.B.trans ((Y.mono h.B.size).below h.l), s, fun q hq => ⟨(h.g q hq).1, (h.g q hq).2.1, (Y.block q.1 (blk_lt (h.g q hq).2.2) (h.g q hq).2.1).trans (h.g q hq).2.2⟩, h.l⟩
theorem QS.call (h : QS w bs bl bad W) (hb : Below W.heap.size W W') : QS w bs bl bad W' := h.step (BelX.of hb) (h.s.below hb h.s.lt)
theorem QS.at (h : QS w bs bl bad W) {b : Nat} {cs : Array Value} {ty : TypeId} (hq : (b, cs, ty) ∈ bl) : Blk W b cs ty := (h.g _ hq).2.2
theorem QS.alloc (h : QS w bs bl bad W) (o : Obj) : QS w bs bl bad (W.alloc o) := h.call ((Below.refl _ _).alloc (Nat.le_refl _) o)
theorem QS.drew (h : QS w bs bl bad W) : QS w bs bl bad W.drew := h.call ((Below.refl _ _).drew)
theorem QS.drewN (h : QS w bs bl bad W) (n : Nat) : QS w bs bl bad (W.drewN n) := h.call (below_drewN (Below.refl _ _) n)
theorem QS.push (h : QS w bs bl bad W) (cs : Array Value) (t : TypeId) : QS w bs ((W.heap.size, cs, t) :: bl) bad (W.alloc (.cells cs t)) := by
  have h2 := h.alloc (.cells cs t)
  refine ⟨h2.B, h2.s, fun q hq => ?_, h2.l⟩
  rcases List.mem_cons.1 hq with rfl | hq
  · exact ⟨h.B.size, by have := h.s.lt; simp only; omega, heap_alloc_last W _⟩
  · exact h2.g q hq
theorem QS.far (h : QS w bs bl bad W) {p : Addr} (hp : w.heap.size ≤ p.block) (hs : bs ≠ p.block) (hn : ∀ q ∈ bl, q.1 ≠ p.block) (u : Value) : QS w bs bl bad (W.setCell p u) :=
  ⟨h.B.setCell hp u, h.s.far hs u, fun q hq => ⟨(h.g q hq).1, (h.g q hq).2.1, (Below.heap_setCell _ _ _ _ (hn q hq)).trans (h.g q hq).2.2⟩, h.l⟩
theorem QS.sub (h : QS w bs bl bad W) {bl' : List (Nat × Array Value × TypeId)} (hs : ∀ q ∈ bl', q ∈ bl) : QS w bs bl' bad W := ⟨h.B, h.s, fun q hq => h.g q (hs q hq), h.l⟩
theorem QS.set {b : Nat} {cs cs' : Array Value} {t : TypeId} (h : QS w bs ((b, cs, t) :: bl) bad W) (hn : ∀ q ∈ bl, q.1 ≠ b) {W' : World} (hB : Below w.heap.size W W') (hk : ∀ c, c ≠ b → W'.heap[c]? = W.heap[c]?) (hc : Blk W' b cs' t) : QS w bs ((b, cs', t) :: bl) bad W' := by
  have h0 := h.g (b, cs, t) (by simp)
  refine ⟨h.B.trans hB, (hk bs (by have := h0.2.1; simp only at this; omega)).trans h.s, fun q hq => ?_, h.l⟩
  rcases List.mem_cons.1 hq with rfl | hq
  · exact ⟨h0.1, h0.2.1, hc⟩
  · have h1 := h.g q (List.mem_cons_of_mem _ hq)
    exact ⟨h1.1, h1.2.1, (hk q.1 (hn q hq)).trans h1.2.2⟩
theorem BW.qs (h : BW w bl W) : QS w W.heap.size bl false (W.alloc (.cells #[.bool false] 70)) :=
  ⟨h.B.alloc h.B.size _, SumIs.new' rfl, fun q hq => ⟨h.lo q hq, by have := blk_lt (h.bs q hq); omega, (Below.heap_alloc _ _ _ (blk_lt (h.bs q hq))).trans (h.bs q hq)⟩, h.B.size⟩
theorem qs_times (a c v : Fr) (n : Bool) (hv : Hid ((timesI a c).getD Z3 = v ∧ (timesI a c).isNone = n)) (W : World) (h : QS w bs bl bad W) :
    Calls Tryz.prog 55 #[.pointer (some ⟨bs, 0, none⟩), frv a, frv c] W fun e w' => e = .returned (frv v) ∧ QS w bs bl (bad || n) w' := by
  rw [← hv.out.1, ← hv.out.2]
  exact (x_times a c bs W (SumEx.of h.s)).mono fun e w' ⟨h1, hu, hx⟩ => ⟨h1, h.step hx (hu _ h.s)⟩
theorem qs_add (a c v : Fr) (n : Bool) (hv : Hid ((addI a c).getD Z3 = v ∧ (addI a c).isNone = n)) (W : World) (h : QS w bs bl bad W) :
    Calls Tryz.prog 56 #[.pointer (some ⟨bs, 0, none⟩), frv a, frv c] W fun e w' => e = .returned (frv v) ∧ QS w bs bl (bad || n) w' := by
  rw [← hv.out.1, ← hv.out.2]
  exact (x_add a c bs W (SumEx.of h.s)).mono fun e w' ⟨h1, hu, hx⟩ => ⟨h1, h.step hx (hu _ h.s)⟩
theorem qs_less (a c v : Fr) (n : Bool) (hv : Hid ((lessI a c).getD Z3 = v ∧ (lessI a c).isNone = n)) (W : World) (h : QS w bs bl bad W) :
    Calls Tryz.prog 62 #[.pointer (some ⟨bs, 0, none⟩), frv a, frv c] W fun e w' => e = .returned (frv v) ∧ QS w bs bl (bad || n) w' := by
  rw [← hv.out.1, ← hv.out.2]
  exact (x_less a c bs W (SumEx.of h.s)).mono fun e w' ⟨h1, hu, hx⟩ => ⟨h1, h.step hx (hu _ h.s)⟩
theorem qs_gotJ (a : Jn) (W : World) (h : QS w bs bl bad W) :
    Calls Tryz.prog 69 #[.pointer (some ⟨bs, 0, none⟩), jnv a] W fun e w' => e = .returned (.tuple #[jnv (gotF bad Z6 a), .bool (!bad)]) ∧ QS w bs bl bad w' := by
  refine (got_jones a bs W (SumEx.of h.s)).mono ?_
  rintro e w' ⟨b, hb, rfl, hx⟩
  obtain rfl := hb.uniq h.s
  exact ⟨rfl, h.call hx⟩
theorem qs_gotF (a : Fr) (W : World) (h : QS w bs bl bad W) :
    Calls Tryz.prog 57 #[.pointer (some ⟨bs, 0, none⟩), frv a] W fun e w' => e = .returned (.tuple #[frv (gotF bad Z3 a), .bool (!bad)]) ∧ QS w bs bl bad w' := by
  refine (got_frac a bs W (SumEx.of h.s)).mono ?_
  rintro e w' ⟨b, hb, rfl, hx⟩
  obtain rfl := hb.uniq h.s
  exact ⟨rfl, h.call hx⟩
end
def QSE (w : World) (bs : Nat) (bl : List (Nat × Array Value × TypeId)) (W : World) : Prop := ∃ bad, QS w bs bl bad W
theorem QSE.alloc {w W : World} {bs : Nat} {bl : List (Nat × Array Value × TypeId)} (h : QSE w bs bl W) (o : Obj) : QSE w bs bl (W.alloc o) := ⟨_, h.choose_spec.alloc o⟩
theorem QSE.drew {w W : World} {bs : Nat} {bl : List (Nat × Array Value × TypeId)} (h : QSE w bs bl W) : QSE w bs bl W.drew := ⟨_, h.choose_spec.drew⟩
theorem QSE.drewN {w W : World} {bs : Nat} {bl : List (Nat × Array Value × TypeId)} (h : QSE w bs bl W) (n : Nat) : QSE w bs bl (W.drewN n) := ⟨_, h.choose_spec.drewN n⟩
theorem QSE.far {w W : World} {bs : Nat} {bl : List (Nat × Array Value × TypeId)} (h : QSE w bs bl W) {p : Addr} (hp : w.heap.size ≤ p.block) (hs : bs ≠ p.block) (hn : ∀ q ∈ bl, q.1 ≠ p.block) (u : Value) : QSE w bs bl (W.setCell p u) := ⟨_, h.choose_spec.far hp hs hn u⟩
theorem jtimes_valid {a : Jn} {c : Fr} {x y : Fr} (hx : timesI a.x c = some x) (hy : timesI a.y c = some y) : jvalid a = true ∧ fvalid c = true := by
  have h1 : fvalid a.x = true ∧ fvalid c = true := by
    unfold timesI at hx
    cases h1 : fvalid a.x <;> cases h2 : fvalid c <;> simp_all
  have h2 : fvalid a.y = true := by
    unfold timesI at hy
    cases h2 : fvalid a.y <;> simp_all
  exact ⟨by simp [jvalid, h1.1, h2], h1.2⟩
set_option maxRecDepth 100000 in
set_option maxHeartbeats 4000000 in
theorem jtimesG (a : Jn) (c x y : Fr) (w : World) (hx : Hid (timesI a.x c = some x)) (hy : Hid (timesI a.y c = some y)) :
    Calls Tryz.prog 102 #[jnv a, frv c] w fun e w' => e = .returned (.tuple #[jnv ⟨x, y⟩, .bool true]) ∧ Below w.heap.size w w' := by
  have hv := jtimes_valid hx.out hy.out
  have HA := Lib.hid hv.1
  have HC := Lib.hid hv.2
  have HX : Hid ((timesI a.x c).getD Z3 = x ∧ (timesI a.x c).isNone = false) := Lib.hid (by rw [hx.out]; exact ⟨rfl, rfl⟩)
  have HY : Hid ((timesI a.y c).getD Z3 = y ∧ (timesI a.y c).isNone = false) := Lib.hid (by rw [hy.out]; exact ⟨rfl, rfl⟩)
  clear hv hx hy
  obtain ⟨bl, hbl⟩ : ∃ l, l = [(w.heap.size, jc a, 26), (w.heap.size + 1, frc c, 24), (w.heap.size + 1 + 1, jc Z6, 26)] := ⟨_, rfl⟩
  obtain ⟨W0, hW0, hQ0⟩ : ∃ W, W = ((w.alloc (.cells #[.int .i64 a.x.re, .int .i64 a.x.im, .int .i64 a.x.den, .int .i64 a.y.re, .int .i64 a.y.im, .int .i64 a.y.den] 26)).alloc (.cells #[.int .i64 c.re, .int .i64 c.im, .int .i64 c.den] 24)).alloc (.cells #[.int .i64 0, .int .i64 0, .int .i64 0, .int .i64 0, .int .i64 0, .int .i64 0] 26) ∧ W.heap.size = w.heap.size + 1 + 1 + 1 ∧ QS w (w.heap.size + 1 + 1 + 1) bl false (W.alloc (.cells #[.bool false] 70)) := by
    refine ⟨_, rfl, by simp, by exact below_, SumIs.new' (by simp), ?_, by omega⟩
    rw [hbl]
    intro q hq
    have h1 := BW.one w (jc a) 26
    have h2 := h1.push (Below.refl _ _) (frc c) 24
    simp only [World.size_alloc] at h2
    have h3 := h2.push (Below.refl _ _) (jc Z6) 26
    simp only [World.size_alloc] at h3
    have h4 := h3.step ((Below.refl _ _).alloc (Nat.le_refl _) (.cells #[.bool false] 70))
    simp only [List.mem_cons, List.not_mem_nil, or_false] at hq
    rcases hq with rfl | rfl | rfl
    · exact ⟨Nat.le_refl _, by simp only; omega, h4.at (by simp)⟩
    · exact ⟨by simp only; omega, by simp only; omega, h4.at (by simp)⟩
    · exact ⟨by simp only; omega, by simp only; omega, h4.at (by simp)⟩
  have hz0 := hQ0.1
  have hQ := hQ0.2
  have hA : ∀ W bad, QS w (w.heap.size + 1 + 1 + 1) bl bad W → Blk W w.heap.size (jc a) 26 := fun W bad h => h.at (by rw [hbl]; simp)
  have hC : ∀ W bad, QS w (w.heap.size + 1 + 1 + 1) bl bad W → Blk W (w.heap.size + 1) (frc c) 24 := fun W bad h => h.at (by rw [hbl]; simp)
  have hR : ∀ W bad, QS w (w.heap.size + 1 + 1 + 1) bl bad W → Blk W (w.heap.size + 1 + 1) (jc Z6) 26 := fun W bad h => h.at (by rw [hbl]; simp)
  have HK := Lib.hid (And.intro hA (And.intro hC hR))
  have HBL := Lib.hid hbl
  obtain ⟨⟨a0, a1, a2, a3, a4, a5⟩, -⟩ := blk_j (hA _ _ hQ)
  obtain ⟨c0, c1, c2⟩ := blk_fr0 (hC _ _ hQ)
  clear hA hC hR hbl hQ0
  go_enter Tryz.func102, Tryz.ntmps102
  go_upto_region 1 with fail
  rw [← hW0]
  clear hW0
  go_upto_region 2 with (first | (go_at_call 76; (with_reducible refine (jvalid_t a _ HA.out).mono ?_); rintro e w1 ⟨rfl, hb⟩; have hQ1 := hQ.call hb; obtain ⟨c0, c1, c2⟩ := blk_fr0 (HK.out.2.1 _ _ hQ1); clear hb) | (go_at_call 58; (with_reducible refine (fvalid_t c _ HC.out).mono ?_); rintro e w2 ⟨rfl, hb⟩; have hQ2 := hQ1.call hb; clear hb) | (go_at_call 53; (with_reducible refine (x_need true (w.heap.size + 1 + 1 + 1) _ (SumEx.of hQ2.s)).mono ?_); rintro e w3 ⟨rfl, hu, hx⟩; have hQ3 := hQ2.step hx (hu _ hQ2.s); clear hu hx))
  clear hQ hQ1 hQ2 a0 a1 a2 a3 a4 a5 c0 c1 c2 hz0
  have HSUB : Hid (∀ W bad, QS w (w.heap.size + 1 + 1 + 1) bl bad W → QSE w (w.heap.size + 1 + 1 + 1) [(w.heap.size, jc a, 26), (w.heap.size + 1, frc c, 24)] W) := Lib.hid (fun W bad h => ⟨_, h.sub (by intro q hq; rw [HBL.out]; simp only [List.mem_cons, List.not_mem_nil, or_false] at hq; rcases hq with rfl | rfl <;> simp)⟩)
  have HS : Hid (∀ W, QSE w (w.heap.size + 1 + 1 + 1) [(w.heap.size, jc a, 26), (w.heap.size + 1, frc c, 24)] W → (fun w' => w'.cell? ⟨w.heap.size, 0, none⟩ = some (.int .i64 a.x.re) ∧ w'.cell? ⟨w.heap.size, 1, none⟩ = some (.int .i64 a.x.im) ∧ w'.cell? ⟨w.heap.size, 2, none⟩ = some (.int .i64 a.x.den) ∧ w'.cell? ⟨w.heap.size, 3, none⟩ = some (.int .i64 a.y.re) ∧ w'.cell? ⟨w.heap.size, 4, none⟩ = some (.int .i64 a.y.im) ∧ w'.cell? ⟨w.heap.size, 5, none⟩ = some (.int .i64 a.y.den) ∧ w'.cell? ⟨w.heap.size + 1, 0, none⟩ = some (.int .i64 c.re) ∧ w'.cell? ⟨w.heap.size + 1, 1, none⟩ = some (.int .i64 c.im) ∧ w'.cell? ⟨w.heap.size + 1, 2, none⟩ = some (.int .i64 c.den)) W) := Lib.hid (fun W hE => by
    obtain ⟨bad, h⟩ := hE
    obtain ⟨c00, c01, c02, c03, c04, c05⟩ := (blk_j (a := a) (h.at (b := w.heap.size) (cs := jc a) (ty := 26) (by simp))).1
    obtain ⟨c10, c11, c12⟩ := blk_fr0 (f := c) (h.at (b := w.heap.size + 1) (cs := frc c) (ty := 24) (by simp))
    exact ⟨c00, c01, c02, c03, c04, c05, c10, c11, c12⟩)
  have HN : Hid (∀ q ∈ ([(w.heap.size, jc a, 26), (w.heap.size + 1, frc c, 24)] : List (Nat × Array Value × TypeId)), q.1 ≠ w.heap.size + 1 + 1) := Lib.hid (by intro q hq; simp only [List.mem_cons, List.not_mem_nil, or_false] at hq; rcases hq with rfl | rfl <;> (first | (simp only; omega) | omega | (simp; omega)))
  go_region_held3 (fun w' => w'.cell? ⟨w.heap.size, 0, none⟩ = some (.int .i64 a.x.re) ∧ w'.cell? ⟨w.heap.size, 1, none⟩ = some (.int .i64 a.x.im) ∧ w'.cell? ⟨w.heap.size, 2, none⟩ = some (.int .i64 a.x.den) ∧ w'.cell? ⟨w.heap.size, 3, none⟩ = some (.int .i64 a.y.re) ∧ w'.cell? ⟨w.heap.size, 4, none⟩ = some (.int .i64 a.y.im) ∧ w'.cell? ⟨w.heap.size, 5, none⟩ = some (.int .i64 a.y.den) ∧ w'.cell? ⟨w.heap.size + 1, 0, none⟩ = some (.int .i64 c.re) ∧ w'.cell? ⟨w.heap.size + 1, 1, none⟩ = some (.int .i64 c.im) ∧ w'.cell? ⟨w.heap.size + 1, 2, none⟩ = some (.int .i64 c.den)) (((refine HS.out _ ?_); (repeat' (first | (with_reducible assumption) | (with_reducible exact HSUB.out _ _ (by with_reducible assumption)) | (with_reducible apply QSE.alloc) | (with_reducible apply QSE.drewN) | (with_reducible apply QSE.drew) | ((with_reducible refine QSE.far ?_ ?_ ?_ ?_ _) <;> (first | (with_reducible exact HN.out) | (simp; done) | omega | (simp; omega) | skip)))))) (first | (go_at_call 55; (with_reducible refine (qs_times a.x c x false HX _ (by (repeat' (first | (with_reducible assumption) | (with_reducible apply QS.alloc) | (with_reducible apply QS.drewN) | (with_reducible apply QS.drew))))).mono ?_); rintro e wd ⟨rfl, hD⟩; have hBd := hD.B; have hld := hD.s.lt) | (go_at_call 55; (with_reducible refine (qs_times a.y c y false HY _ (by (repeat' (first | (with_reducible assumption) | (with_reducible apply QS.alloc) | (with_reducible apply QS.drewN) | (with_reducible apply QS.drew))))).mono ?_); rintro e wd ⟨rfl, hD⟩; have hBd := hD.B; have hld := hD.s.lt) | (go_at_call 69; (with_reducible refine (qs_gotJ ⟨_, _⟩ _ (by (repeat' (first | (with_reducible assumption) | (with_reducible apply QS.alloc) | (with_reducible apply QS.drewN) | (with_reducible apply QS.drew))))).mono ?_); rintro e wd ⟨rfl, hD⟩; have hBd := hD.B; have hld := hD.s.lt; obtain ⟨⟨r0, r1, r2, r3, r4, r5⟩, r6, r7, r8, r9, r10, r11⟩ := blk_j (HK.out.2.2 _ _ hD)))
  all_goals (go_wp2; refine bodyPost_ret (v := .tuple #[jnv ⟨x, y⟩, .bool true]) (by simp [results, Tryz.results102, gotF, go_sem, *]) rfl ⟨rfl, by exact below_⟩)
/-- Blocks of the call's own beside a reckoning that is older. -/
structure QX (w : World) (bs : Nat) (bl : List (Nat × Array Value × TypeId)) (bad : Bool) (W : World) : Prop where
  B : BelX w.heap.size bs w W
  s : SumIs W bs bad
  g : ∀ q ∈ bl, w.heap.size ≤ q.1 ∧ Blk W q.1 q.2.1 q.2.2
  l : bs < w.heap.size
section
variable {w W W' : World} {bs : Nat} {bl : List (Nat × Array Value × TypeId)} {bad bad' : Bool}
theorem QX.step (h : QX w bs bl bad W) (Y : BelX W.heap.size bs W W') (s : SumIs W' bs bad') : QX w bs bl bad' W' :=
  ⟨h.B.step Y h.B.size, s, fun q hq => ⟨(h.g q hq).1, (Y.block q.1 (blk_lt (h.g q hq).2) (by have := (h.g q hq).1; have := h.l; omega)).trans (h.g q hq).2⟩, h.l⟩
theorem QX.alloc (h : QX w bs bl bad W) (o : Obj) : QX w bs bl bad (W.alloc o) := h.step (BelX.of ((Below.refl _ _).alloc (Nat.le_refl _) o)) (h.s.alloc o)
theorem QX.drew (h : QX w bs bl bad W) : QX w bs bl bad W.drew := h.step (BelX.of ((Below.refl _ _).drew)) h.s.drew
theorem QX.drewN (h : QX w bs bl bad W) (n : Nat) : QX w bs bl bad (W.drewN n) := h.step (BelX.of (below_drewN (Below.refl _ _) n)) (h.s.drewN n)
theorem QX.far (h : QX w bs bl bad W) {p : Addr} (hp : w.heap.size ≤ p.block) (hn : ∀ q ∈ bl, q.1 ≠ p.block) (u : Value) : QX w bs bl bad (W.setCell p u) :=
  ⟨h.B.setCell hp u, h.s.far (by have := h.l; omega) u, fun q hq => ⟨(h.g q hq).1, (Below.heap_setCell _ _ _ _ (hn q hq)).trans (h.g q hq).2⟩, h.l⟩
theorem QX.sub (h : QX w bs bl bad W) {bl' : List (Nat × Array Value × TypeId)} (hs : ∀ q ∈ bl', q ∈ bl) : QX w bs bl' bad W := ⟨h.B, h.s, fun q hq => h.g q (hs q hq), h.l⟩
theorem QX.at (h : QX w bs bl bad W) {b : Nat} {cs : Array Value} {ty : TypeId} (hq : (b, cs, ty) ∈ bl) : Blk W b cs ty := (h.g _ hq).2
theorem qx_less (a c v : Fr) (n : Bool) (hv : Hid ((lessI a c).getD Z3 = v ∧ (lessI a c).isNone = n)) (W : World) (h : QX w bs bl bad W) :
    Calls Tryz.prog 62 #[.pointer (some ⟨bs, 0, none⟩), frv a, frv c] W fun e w' => e = .returned (frv v) ∧ QX w bs bl (bad || n) w' := by
  rw [← hv.out.1, ← hv.out.2]
  exact (x_less a c bs W (SumEx.of h.s)).mono fun e w' ⟨h1, hu, hx⟩ => ⟨h1, h.step hx (hu _ h.s)⟩
end
def QXE (w : World) (bs : Nat) (bl : List (Nat × Array Value × TypeId)) (W : World) : Prop := ∃ bad, QX w bs bl bad W
theorem QXE.alloc {w W : World} {bs : Nat} {bl : List (Nat × Array Value × TypeId)} (h : QXE w bs bl W) (o : Obj) : QXE w bs bl (W.alloc o) := ⟨_, h.choose_spec.alloc o⟩
theorem QXE.drew {w W : World} {bs : Nat} {bl : List (Nat × Array Value × TypeId)} (h : QXE w bs bl W) : QXE w bs bl W.drew := ⟨_, h.choose_spec.drew⟩
theorem QXE.drewN {w W : World} {bs : Nat} {bl : List (Nat × Array Value × TypeId)} (h : QXE w bs bl W) (n : Nat) : QXE w bs bl (W.drewN n) := ⟨_, h.choose_spec.drewN n⟩
theorem QXE.far {w W : World} {bs : Nat} {bl : List (Nat × Array Value × TypeId)} (h : QXE w bs bl W) {p : Addr} (hp : w.heap.size ≤ p.block) (hn : ∀ q ∈ bl, q.1 ≠ p.block) (u : Value) : QXE w bs bl (W.setCell p u) := ⟨_, h.choose_spec.far hp hn u⟩
set_option maxRecDepth 100000 in
set_option maxHeartbeats 4000000 in
theorem s_lessV (a b v : Jn) (n m : Bool) (bs : Nat) (bad : Bool) (w : World) (hx : Hid ((lessI a.x b.x).getD Z3 = v.x ∧ (lessI a.x b.x).isNone = n)) (hy : Hid ((lessI a.y b.y).getD Z3 = v.y ∧ (lessI a.y b.y).isNone = m)) (hs : SumIs w bs bad) :
    Calls Tryz.prog 68 #[.pointer (some ⟨bs, 0, none⟩), jnv a, jnv b] w fun e w' => e = .returned (jnv v) ∧ SumIs w' bs ((bad || n) || m) ∧ BelX w.heap.size bs w w' := by
  have hlt := hs.lt
  obtain ⟨W0, hW0, hQ0⟩ : ∃ W, W = ((w.alloc (.cells #[.int .i64 a.x.re, .int .i64 a.x.im, .int .i64 a.x.den, .int .i64 a.y.re, .int .i64 a.y.im, .int .i64 a.y.den] 26)).alloc (.cells #[.int .i64 b.x.re, .int .i64 b.x.im, .int .i64 b.x.den, .int .i64 b.y.re, .int .i64 b.y.im, .int .i64 b.y.den] 26)).alloc (.cells #[.int .i64 0, .int .i64 0, .int .i64 0, .int .i64 0, .int .i64 0, .int .i64 0] 26) ∧ QX w bs [(w.heap.size + 1 + 1, jc Z6, 26), (w.heap.size + 1, jc b, 26), (w.heap.size, jc a, 26)] bad W := by
    refine ⟨_, rfl, ?_⟩
    have h2 := (BW.one w (jc a) 26).push (Below.refl _ _) (jc b) 26
    simp only [World.size_alloc] at h2
    have h3 := h2.push (Below.refl _ _) (jc Z6) 26
    simp only [World.size_alloc] at h3
    exact ⟨BelX.of h3.B, ((hs.alloc _).alloc _).alloc _, fun q hq => ⟨h3.lo q hq, h3.bs q hq⟩, hlt⟩
  go_enter Tryz.func68, Tryz.ntmps68
  go_upto_region 1 with fail
  rw [← hW0]
  clear hW0
  have HSUB : Hid (∀ W bad, QX w (bs) [(w.heap.size + 1 + 1, jc Z6, 26), (w.heap.size + 1, jc b, 26), (w.heap.size, jc a, 26)] bad W → QXE w (bs) [(w.heap.size, jc a, 26), (w.heap.size + 1, jc b, 26)] W) := Lib.hid (fun W bad h => ⟨_, h.sub (by intro q hq; simp only [List.mem_cons, List.not_mem_nil, or_false] at hq; rcases hq with rfl | rfl <;> simp)⟩)
  have HS : Hid (∀ W, QXE w (bs) [(w.heap.size, jc a, 26), (w.heap.size + 1, jc b, 26)] W → (fun w' => w'.cell? ⟨w.heap.size, 0, none⟩ = some (.int .i64 a.x.re) ∧ w'.cell? ⟨w.heap.size, 1, none⟩ = some (.int .i64 a.x.im) ∧ w'.cell? ⟨w.heap.size, 2, none⟩ = some (.int .i64 a.x.den) ∧ w'.cell? ⟨w.heap.size, 3, none⟩ = some (.int .i64 a.y.re) ∧ w'.cell? ⟨w.heap.size, 4, none⟩ = some (.int .i64 a.y.im) ∧ w'.cell? ⟨w.heap.size, 5, none⟩ = some (.int .i64 a.y.den) ∧ w'.cell? ⟨w.heap.size + 1, 0, none⟩ = some (.int .i64 b.x.re) ∧ w'.cell? ⟨w.heap.size + 1, 1, none⟩ = some (.int .i64 b.x.im) ∧ w'.cell? ⟨w.heap.size + 1, 2, none⟩ = some (.int .i64 b.x.den) ∧ w'.cell? ⟨w.heap.size + 1, 3, none⟩ = some (.int .i64 b.y.re) ∧ w'.cell? ⟨w.heap.size + 1, 4, none⟩ = some (.int .i64 b.y.im) ∧ w'.cell? ⟨w.heap.size + 1, 5, none⟩ = some (.int .i64 b.y.den)) W) := Lib.hid (fun W hE => by
    obtain ⟨bad, h⟩ := hE
    obtain ⟨c00, c01, c02, c03, c04, c05⟩ := (blk_j (a := a) (h.at (b := w.heap.size) (cs := jc a) (ty := 26) (by simp))).1
    obtain ⟨c10, c11, c12, c13, c14, c15⟩ := (blk_j (a := b) (h.at (b := w.heap.size + 1) (cs := jc b) (ty := 26) (by simp))).1
    exact ⟨c00, c01, c02, c03, c04, c05, c10, c11, c12, c13, c14, c15⟩)
  have HN : Hid (∀ q ∈ ([(w.heap.size, jc a, 26), (w.heap.size + 1, jc b, 26)] : List (Nat × Array Value × TypeId)), q.1 ≠ w.heap.size + 1 + 1) := Lib.hid (by intro q hq; simp only [List.mem_cons, List.not_mem_nil, or_false] at hq; rcases hq with rfl | rfl <;> (first | (simp only; omega) | omega | (simp; omega)))
  go_region_held3 (fun w' => w'.cell? ⟨w.heap.size, 0, none⟩ = some (.int .i64 a.x.re) ∧ w'.cell? ⟨w.heap.size, 1, none⟩ = some (.int .i64 a.x.im) ∧ w'.cell? ⟨w.heap.size, 2, none⟩ = some (.int .i64 a.x.den) ∧ w'.cell? ⟨w.heap.size, 3, none⟩ = some (.int .i64 a.y.re) ∧ w'.cell? ⟨w.heap.size, 4, none⟩ = some (.int .i64 a.y.im) ∧ w'.cell? ⟨w.heap.size, 5, none⟩ = some (.int .i64 a.y.den) ∧ w'.cell? ⟨w.heap.size + 1, 0, none⟩ = some (.int .i64 b.x.re) ∧ w'.cell? ⟨w.heap.size + 1, 1, none⟩ = some (.int .i64 b.x.im) ∧ w'.cell? ⟨w.heap.size + 1, 2, none⟩ = some (.int .i64 b.x.den) ∧ w'.cell? ⟨w.heap.size + 1, 3, none⟩ = some (.int .i64 b.y.re) ∧ w'.cell? ⟨w.heap.size + 1, 4, none⟩ = some (.int .i64 b.y.im) ∧ w'.cell? ⟨w.heap.size + 1, 5, none⟩ = some (.int .i64 b.y.den)) (((refine HS.out _ ?_); (repeat' (first | (with_reducible assumption) | (with_reducible exact HSUB.out _ _ (by with_reducible assumption)) | (with_reducible apply QXE.alloc) | (with_reducible apply QXE.drewN) | (with_reducible apply QXE.drew) | ((with_reducible refine QXE.far ?_ ?_ ?_ _) <;> (first | (with_reducible exact HN.out) | (simp; done) | omega | (simp; omega) | skip)))))) (first | (go_at_call 62; (with_reducible refine (qx_less a.x b.x v.x n hx _ (by (repeat' (first | (with_reducible assumption) | (with_reducible apply QX.alloc) | (with_reducible apply QX.drewN) | (with_reducible apply QX.drew))))).mono ?_); rintro e wd ⟨rfl, hD⟩; have hBd := hD.B; have hsd := hD.s; obtain ⟨⟨u0, u1, u2, u3, u4, u5⟩, u6, u7, u8, u9, u10, u11⟩ := blk_j (hD.at (b := w.heap.size + 1 + 1) (cs := jc Z6) (ty := 26) (by simp))) | (go_at_call 62; (with_reducible refine (qx_less a.y b.y v.y m hy _ (by (repeat' (first | (with_reducible assumption) | (with_reducible apply QX.alloc) | (with_reducible apply QX.drewN) | (with_reducible apply QX.drew))))).mono ?_); rintro e wd ⟨rfl, hD⟩; have hBd := hD.B; have hsd := hD.s; obtain ⟨⟨u0, u1, u2, u3, u4, u5⟩, u6, u7, u8, u9, u10, u11⟩ := blk_j (hD.at (b := w.heap.size + 1 + 1) (cs := jc Z6) (ty := 26) (by simp))))
  all_goals (go_wp2; exact bodyPost_ret (v := jnv v) (by simp [results, Tryz.results68, go_sem, *]) rfl ⟨rfl, by exact sum_, by exact belx_⟩)
theorem qs_lessV {w W : World} {bs : Nat} {bl : List (Nat × Array Value × TypeId)} {bad : Bool} (a b v : Jn) (n m : Bool) (hx : Hid ((lessI a.x b.x).getD Z3 = v.x ∧ (lessI a.x b.x).isNone = n)) (hy : Hid ((lessI a.y b.y).getD Z3 = v.y ∧ (lessI a.y b.y).isNone = m)) (h : QS w bs bl bad W) :
    Calls Tryz.prog 68 #[.pointer (some ⟨bs, 0, none⟩), jnv a, jnv b] W fun e w' => e = .returned (jnv v) ∧ QS w bs bl ((bad || n) || m) w' :=
  (s_lessV a b v n m bs bad W hx hy h.s).mono fun e w' ⟨h1, hu, hb⟩ => ⟨h1, h.step hb hu⟩
/-- What the program's arms are. -/
def armsI (a b : List UInt8) (k : Int) (v : Jn) : Jn × Jn × Bool := if inB k 0 3 then match runI a v, runI b v with
  | some x, some y => (x, rotJ k y, true)
  | _, _ => (Z6, Z6, false) else (Z6, Z6, false)
theorem arms_no {a b : List UInt8} {k : Int} {v : Jn} (h : inB k 0 3 = false ∨ (runI a v).isSome = false ∨ (runI b v).isSome = false) : armsI a b k v = (Z6, Z6, false) := by
  unfold armsI
  cases hk : inB k 0 3
  · rfl
  · cases h1 : runI a v with
    | none => rfl
    | some x =>
      cases h2 : runI b v with
      | none => rfl
      | some y => rw [hk, h1, h2] at h; rcases h with h | h | h <;> cases h
theorem arms_yes {a b : List UInt8} {k : Int} {v X Y : Jn} (hk : inB k 0 3 = true) (hX : (runI a v).getD Z6 = X ∧ (runI a v).isSome = true) (hY : (runI b v).getD Z6 = Y ∧ (runI b v).isSome = true) : armsI a b k v = (X, rotJ k Y, true) ∧ jvalid X = true ∧ jvalid Y = true := by
  cases h1 : runI a v with
  | none => rw [h1] at hX; cases hX.2
  | some x =>
    cases h2 : runI b v with
    | none => rw [h2] at hY; cases hY.2
    | some y =>
      rw [h1] at hX
      rw [h2] at hY
      obtain rfl : x = X := hX.1
      obtain rfl : y = Y := hY.1
      refine ⟨?_, (run_keep h1).2.1, (run_keep h2).2.1⟩
      unfold armsI
      rw [if_pos hk, h1, h2]
theorem run_m (s : ByteArray) (v X : Jn) (p : Bool) (w : World) (hs : s.size ≤ 1048576) (hG : GP w) (e : Hid ((runI s.data.toList v).getD Z6 = X ∧ (runI s.data.toList v).isSome = p)) :
    Calls Tryz.prog 32 #[.string s, jnv v] w fun e w' => e = .returned (.tuple #[jnv X, .bool p]) ∧ Below w.heap.size w w' := by
  rw [← e.out.1, ← e.out.2]; exact run_any s v w hs hG.l hG.o hG.z hG.t
theorem within_o (n lo hi : Int) (b : Bool) (w : World) (h : inB n lo hi = b) : Calls Tryz.prog 94 #[.int .i64 n, .int .i64 lo, .int .i64 hi] w fun e w' => e = .returned (.bool b) ∧ w' = w := by
  rw [← h]; exact within_any n lo hi w
/-- What the call of JonesTimes by a power of i gives. -/
theorem rot_parts {Y : Jn} {k : Int} (hv : jvalid Y = true) (hk : inB k 0 3 = true) : timesI Y.x (phF k) = some (rotJ k Y).x ∧ timesI Y.y (phF k) = some (rotJ k Y).y := by
  simp only [jvalid, Bool.and_eq_true] at hv
  exact ⟨times_ph hv.1 hk, times_ph hv.2 hk⟩
set_option maxRecDepth 100000 in
set_option maxHeartbeats 8000000 in
theorem arms_any (a b : ByteArray) (k : Int) (v : Jn) (w : World) (ha : a.size ≤ 1048576) (hb2 : b.size ≤ 1048576) (hGP : GP w) (A B : Jn) (ok : Bool) (e0 : Hid (armsI a.data.toList b.data.toList k v = (A, B, ok))) :
    Calls Tryz.prog 67 #[.string a, .string b, .int .i64 k, jnv v] w fun e w' => e = .returned (.tuple #[jnv A, jnv B, .bool ok]) ∧ Below w.heap.size w w' := by
  obtain ⟨X, p, hX⟩ : ∃ X p, (runI a.data.toList v).getD Z6 = X ∧ (runI a.data.toList v).isSome = p := ⟨_, _, rfl, rfl⟩
  obtain ⟨Y, q, hY⟩ : ∃ X p, (runI b.data.toList v).getD Z6 = X ∧ (runI b.data.toList v).isSome = p := ⟨_, _, rfl, rfl⟩
  have HX := Lib.hid hX
  have HY := Lib.hid hY
  clear hX hY
  go_enter Tryz.func67, Tryz.ntmps67
  obtain ⟨W0, hW, hW0⟩ : ∃ W, W = ((w.alloc (.cells #[.int .i64 v.x.re, .int .i64 v.x.im, .int .i64 v.x.den, .int .i64 v.y.re, .int .i64 v.y.im, .int .i64 v.y.den] 26)).alloc (.cells #[.int .i64 0, .int .i64 0, .int .i64 0, .int .i64 0, .int .i64 0, .int .i64 0] 26)).alloc (.cells #[.int .i64 0, .int .i64 0, .int .i64 0, .int .i64 0, .int .i64 0, .int .i64 0] 26) ∧ BW w [(w.heap.size + 1 + 1, jc Z6, 26), (w.heap.size + 1, jc Z6, 26), (w.heap.size, jc v, 26)] W := by
    refine ⟨_, rfl, ?_⟩
    have h1 := BW.one w (jc v) 26
    have h2 := h1.push (Below.refl _ _) (jc Z6) 26
    simp only [World.size_alloc] at h2
    have h3 := h2.push (Below.refl _ _) (jc Z6) 26
    simp only [World.size_alloc] at h3
    exact h3
  go_upto_region 1 with fail
  rw [← hW]
  clear hW
  obtain ⟨q00, q01, q02, q03, q04, q05⟩ := (blk_j (a := v) (hW0.at (b := w.heap.size) (cs := jc v) (t := 26) (by simp))).1
  have q0l := blk_lt (hW0.at (b := w.heap.size) (cs := jc v) (t := 26) (by simp))
  go_upto_region 2 with (first | (go_at_call 32; (with_reducible refine (run_m a v X p _ ha (hGP.below hW0.B) HX).mono ?_); rintro e v1 ⟨rfl, hb⟩))
  have hP := hW0.push hb (jc X) 26
  obtain ⟨bX, hbb⟩ : ∃ b, b = v1.heap.size := ⟨_, rfl⟩
  have hbu := hb.size
  obtain ⟨W1, hW, hWr⟩ : ∃ W, W = v1.alloc (.cells #[.int .i64 X.x.re, .int .i64 X.x.im, .int .i64 X.x.den, .int .i64 X.y.re, .int .i64 X.y.im, .int .i64 X.y.den] 26) ∧ W = v1.alloc (.cells (jc X) 26) := ⟨_, rfl, rfl⟩
  rw [← hbb, ← hWr] at hP
  rw [← hbb] at hbu
  rw [← hW, ← hbb]
  have hW1 := hP
  clear hP hb hW hWr hW0
  clear hbb hbu
  clear q00 q01 q02 q03 q04 q05 q0l
  obtain ⟨q00, q01, q02, q03, q04, q05⟩ := (blk_j (a := v) (hW1.at (b := w.heap.size) (cs := jc v) (t := 26) (by simp))).1
  have q0l := blk_lt (hW1.at (b := w.heap.size) (cs := jc v) (t := 26) (by simp))
  go_upto_region 3 with (first | (go_at_call 32; (with_reducible refine (run_m b v Y q _ hb2 (hGP.below hW1.B) HY).mono ?_); rintro e v2 ⟨rfl, hb⟩))
  have hP := hW1.push hb (jc Y) 26
  obtain ⟨bY, hbb⟩ : ∃ b, b = v2.heap.size := ⟨_, rfl⟩
  have hbu := hb.size
  obtain ⟨W2, hW, hWr⟩ : ∃ W, W = v2.alloc (.cells #[.int .i64 Y.x.re, .int .i64 Y.x.im, .int .i64 Y.x.den, .int .i64 Y.y.re, .int .i64 Y.y.im, .int .i64 Y.y.den] 26) ∧ W = v2.alloc (.cells (jc Y) 26) := ⟨_, rfl, rfl⟩
  rw [← hbb, ← hWr] at hP
  rw [← hbb] at hbu
  rw [← hW, ← hbb]
  have hW2 := hP
  clear hP hb hW hWr hW1
  clear hbb hbu
  clear q00 q01 q02 q03 q04 q05 q0l
  cases p
  · skip
    obtain ⟨q10, q11, q12, q13, q14, q15⟩ := (blk_j (a := Z6) (hW2.at (b := w.heap.size + 1) (cs := jc Z6) (t := 26) (by simp))).1
    have q1l := blk_lt (hW2.at (b := w.heap.size + 1) (cs := jc Z6) (t := 26) (by simp))
    have q1f := blk_free0 (hW2.at (b := w.heap.size + 1) (cs := jc Z6) (t := 26) (by simp))
    obtain ⟨q20, q21, q22, q23, q24, q25⟩ := (blk_j (a := Z6) (hW2.at (b := w.heap.size + 1 + 1) (cs := jc Z6) (t := 26) (by simp))).1
    have q2l := blk_lt (hW2.at (b := w.heap.size + 1 + 1) (cs := jc Z6) (t := 26) (by simp))
    have q2f := blk_free0 (hW2.at (b := w.heap.size + 1 + 1) (cs := jc Z6) (t := 26) (by simp))
    have hBF := hW2.B
    have he := e0.out.symm.trans (arms_no (.inr (.inl HX.out.2)))
    simp only [Prod.mk.injEq] at he
    obtain ⟨rfl, rfl, rfl⟩ := he
    go_wp2
    exact bodyPost_ret (v := .tuple #[jnv Z6, jnv Z6, .bool false]) (by simp [results, Tryz.results67, go_sem, *]) rfl ⟨rfl, by exact below_⟩
  cases q
  · skip
    obtain ⟨q10, q11, q12, q13, q14, q15⟩ := (blk_j (a := Z6) (hW2.at (b := w.heap.size + 1) (cs := jc Z6) (t := 26) (by simp))).1
    have q1l := blk_lt (hW2.at (b := w.heap.size + 1) (cs := jc Z6) (t := 26) (by simp))
    have q1f := blk_free0 (hW2.at (b := w.heap.size + 1) (cs := jc Z6) (t := 26) (by simp))
    obtain ⟨q20, q21, q22, q23, q24, q25⟩ := (blk_j (a := Z6) (hW2.at (b := w.heap.size + 1 + 1) (cs := jc Z6) (t := 26) (by simp))).1
    have q2l := blk_lt (hW2.at (b := w.heap.size + 1 + 1) (cs := jc Z6) (t := 26) (by simp))
    have q2f := blk_free0 (hW2.at (b := w.heap.size + 1 + 1) (cs := jc Z6) (t := 26) (by simp))
    have hBF := hW2.B
    have he := e0.out.symm.trans (arms_no (.inr (.inr HY.out.2)))
    simp only [Prod.mk.injEq] at he
    obtain ⟨rfl, rfl, rfl⟩ := he
    go_wp2
    exact bodyPost_ret (v := .tuple #[jnv Z6, jnv Z6, .bool false]) (by simp [results, Tryz.results67, go_sem, *]) rfl ⟨rfl, by exact below_⟩
  cases hk : inB k 0 3
  · skip
    obtain ⟨q10, q11, q12, q13, q14, q15⟩ := (blk_j (a := Z6) (hW2.at (b := w.heap.size + 1) (cs := jc Z6) (t := 26) (by simp))).1
    have q1l := blk_lt (hW2.at (b := w.heap.size + 1) (cs := jc Z6) (t := 26) (by simp))
    have q1f := blk_free0 (hW2.at (b := w.heap.size + 1) (cs := jc Z6) (t := 26) (by simp))
    obtain ⟨q20, q21, q22, q23, q24, q25⟩ := (blk_j (a := Z6) (hW2.at (b := w.heap.size + 1 + 1) (cs := jc Z6) (t := 26) (by simp))).1
    have q2l := blk_lt (hW2.at (b := w.heap.size + 1 + 1) (cs := jc Z6) (t := 26) (by simp))
    have q2f := blk_free0 (hW2.at (b := w.heap.size + 1 + 1) (cs := jc Z6) (t := 26) (by simp))
    have hBF := hW2.B
    have he := e0.out.symm.trans (arms_no (.inl hk))
    simp only [Prod.mk.injEq] at he
    obtain ⟨rfl, rfl, rfl⟩ := he
    go_wp2_with (first | (go_at_call 94; refine (within_o _ _ _ _ _ hk).mono ?_; rintro e w9 ⟨rfl, hw⟩; obtain rfl := hw.symm))
    exact bodyPost_ret (v := .tuple #[jnv Z6, jnv Z6, .bool false]) (by simp [results, Tryz.results67, go_sem, *]) rfl ⟨rfl, by exact below_⟩
  obtain ⟨he, -, hv⟩ := arms_yes hk HX.out HY.out
  have he := e0.out.symm.trans he
  simp only [Prod.mk.injEq] at he
  obtain ⟨rfl, hBr, rfl⟩ := he
  have hT := (hGP.below hW2.B).t
  go_upto_region 5 with (first | (go_at_call 94; refine (within_o _ _ _ _ _ hk).mono ?_; rintro e w9 ⟨rfl, hw⟩; obtain rfl := hw.symm))
  have hrp := rot_parts hv hk
  have hkc := ph_cases hk
  rw [← hBr] at hrp
  have HXY := Lib.hid hrp
  clear hk hrp hBr hv
  obtain ⟨q40, q41, q42, q43, q44, q45⟩ := (blk_j (a := Y) (hW2.at (b := bY) (cs := jc Y) (t := 26) (by simp))).1
  have q4l := blk_lt (hW2.at (b := bY) (cs := jc Y) (t := 26) (by simp))
  go_cut [15, 16] from 42 to 49 (fun s15 s16 wx => ∃ bZ, s15 = .pointer (some ⟨bZ, 0, none⟩) ∧ s16 = .bool true ∧ (wx.cell? ⟨bZ, 0, none⟩ = some (.int .i64 B.x.re) ∧ wx.cell? ⟨bZ, 1, none⟩ = some (.int .i64 B.x.im) ∧ wx.cell? ⟨bZ, 2, none⟩ = some (.int .i64 B.x.den) ∧ wx.cell? ⟨bZ, 3, none⟩ = some (.int .i64 B.y.re) ∧ wx.cell? ⟨bZ, 4, none⟩ = some (.int .i64 B.y.im) ∧ wx.cell? ⟨bZ, 5, none⟩ = some (.int .i64 B.y.den)) ∧ W2.heap.size ≤ bZ ∧ Below W2.heap.size W2 wx)
  case first =>
    have hTl := hT.lts
    obtain ⟨⟨t0, t1, t2⟩, ⟨t3, t4, t5⟩, ⟨t6, t7, t8⟩, t9, t10, t11⟩ := hT.val
    simp only [Nat.zero_add] at t0 t1 t2
    rcases hkc with rfl | rfl | rfl | rfl
    · have H1 : Hid (timesI Y.x ⟨1, 0, 1⟩ = some B.x) := Lib.hid HXY.out.1
      have H2 : Hid (timesI Y.y ⟨1, 0, 1⟩ = some B.y) := Lib.hid HXY.out.2
      clear HXY
      go_region_held3 (fun w' => w'.cell? ⟨bY, 0, none⟩ = some (.int .i64 Y.x.re) ∧ w'.cell? ⟨bY, 1, none⟩ = some (.int .i64 Y.x.im) ∧ w'.cell? ⟨bY, 2, none⟩ = some (.int .i64 Y.x.den) ∧ w'.cell? ⟨bY, 3, none⟩ = some (.int .i64 Y.y.re) ∧ w'.cell? ⟨bY, 4, none⟩ = some (.int .i64 Y.y.im) ∧ w'.cell? ⟨bY, 5, none⟩ = some (.int .i64 Y.y.den) ∧ w'.cell? ⟨1, 0, none⟩ = some (.int .i64 1) ∧ w'.cell? ⟨1, 1, none⟩ = some (.int .i64 0) ∧ w'.cell? ⟨1, 2, none⟩ = some (.int .i64 1)) ((first | go_keep | (simp [go_sem, *]; done))) (first | (go_at_call 102; (with_reducible refine (jtimesG Y ⟨1, 0, 1⟩ B.x B.y _ H1 H2).mono ?_); rintro e w1 ⟨rfl, hb⟩; obtain ⟨hc, hf⟩ := bf hb (W2.heap.size) side_; have hs := hb.size; (try simp only [World.size_alloc, World.size_setCell, World.size_drew, World.heap_drewN] at hs); have hl : W2.heap.size ≤ w1.heap.size := (by omega); obtain ⟨B, hBe, hBl, hc2, hf2⟩ := bfA hb; (try simp only [World.size_alloc, World.size_setCell, World.size_drew, World.heap_drewN] at hBe); have hB : Below W2.heap.size W2 w1 := bstep (by exact below_) hb side_; clear hs hb))
      all_goals (go_wp2; go_meet; exact ⟨_, rfl, rfl, (by refine ⟨?_, ?_, ?_, ?_, ?_, ?_⟩ <;> (first | (with_reducible exact World.cell?_alloc_at _ _ _ _ rfl) | (simp [go_sem, *]; done))), (by first | omega | (simp; omega)), by exact below_⟩)
    · have H1 : Hid (timesI Y.x ⟨0, 1, 1⟩ = some B.x) := Lib.hid HXY.out.1
      have H2 : Hid (timesI Y.y ⟨0, 1, 1⟩ = some B.y) := Lib.hid HXY.out.2
      clear HXY
      go_region_held3 (fun w' => w'.cell? ⟨bY, 0, none⟩ = some (.int .i64 Y.x.re) ∧ w'.cell? ⟨bY, 1, none⟩ = some (.int .i64 Y.x.im) ∧ w'.cell? ⟨bY, 2, none⟩ = some (.int .i64 Y.x.den) ∧ w'.cell? ⟨bY, 3, none⟩ = some (.int .i64 Y.y.re) ∧ w'.cell? ⟨bY, 4, none⟩ = some (.int .i64 Y.y.im) ∧ w'.cell? ⟨bY, 5, none⟩ = some (.int .i64 Y.y.den) ∧ w'.cell? ⟨1, 3, none⟩ = some (.int .i64 0) ∧ w'.cell? ⟨1, 4, none⟩ = some (.int .i64 1) ∧ w'.cell? ⟨1, 5, none⟩ = some (.int .i64 1)) ((first | go_keep | (simp [go_sem, *]; done))) (first | (go_at_call 102; (with_reducible refine (jtimesG Y ⟨0, 1, 1⟩ B.x B.y _ H1 H2).mono ?_); rintro e w1 ⟨rfl, hb⟩; obtain ⟨hc, hf⟩ := bf hb (W2.heap.size) side_; have hs := hb.size; (try simp only [World.size_alloc, World.size_setCell, World.size_drew, World.heap_drewN] at hs); have hl : W2.heap.size ≤ w1.heap.size := (by omega); obtain ⟨B, hBe, hBl, hc2, hf2⟩ := bfA hb; (try simp only [World.size_alloc, World.size_setCell, World.size_drew, World.heap_drewN] at hBe); have hB : Below W2.heap.size W2 w1 := bstep (by exact below_) hb side_; clear hs hb))
      all_goals (go_wp2; go_meet; exact ⟨_, rfl, rfl, (by refine ⟨?_, ?_, ?_, ?_, ?_, ?_⟩ <;> (first | (with_reducible exact World.cell?_alloc_at _ _ _ _ rfl) | (simp [go_sem, *]; done))), (by first | omega | (simp; omega)), by exact below_⟩)
    · have H1 : Hid (timesI Y.x ⟨-1, 0, 1⟩ = some B.x) := Lib.hid HXY.out.1
      have H2 : Hid (timesI Y.y ⟨-1, 0, 1⟩ = some B.y) := Lib.hid HXY.out.2
      clear HXY
      go_region_held3 (fun w' => w'.cell? ⟨bY, 0, none⟩ = some (.int .i64 Y.x.re) ∧ w'.cell? ⟨bY, 1, none⟩ = some (.int .i64 Y.x.im) ∧ w'.cell? ⟨bY, 2, none⟩ = some (.int .i64 Y.x.den) ∧ w'.cell? ⟨bY, 3, none⟩ = some (.int .i64 Y.y.re) ∧ w'.cell? ⟨bY, 4, none⟩ = some (.int .i64 Y.y.im) ∧ w'.cell? ⟨bY, 5, none⟩ = some (.int .i64 Y.y.den) ∧ w'.cell? ⟨1, 6, none⟩ = some (.int .i64 (-1)) ∧ w'.cell? ⟨1, 7, none⟩ = some (.int .i64 0) ∧ w'.cell? ⟨1, 8, none⟩ = some (.int .i64 1)) ((first | go_keep | (simp [go_sem, *]; done))) (first | (go_at_call 102; (with_reducible refine (jtimesG Y ⟨-1, 0, 1⟩ B.x B.y _ H1 H2).mono ?_); rintro e w1 ⟨rfl, hb⟩; obtain ⟨hc, hf⟩ := bf hb (W2.heap.size) side_; have hs := hb.size; (try simp only [World.size_alloc, World.size_setCell, World.size_drew, World.heap_drewN] at hs); have hl : W2.heap.size ≤ w1.heap.size := (by omega); obtain ⟨B, hBe, hBl, hc2, hf2⟩ := bfA hb; (try simp only [World.size_alloc, World.size_setCell, World.size_drew, World.heap_drewN] at hBe); have hB : Below W2.heap.size W2 w1 := bstep (by exact below_) hb side_; clear hs hb))
      all_goals (go_wp2; go_meet; exact ⟨_, rfl, rfl, (by refine ⟨?_, ?_, ?_, ?_, ?_, ?_⟩ <;> (first | (with_reducible exact World.cell?_alloc_at _ _ _ _ rfl) | (simp [go_sem, *]; done))), (by first | omega | (simp; omega)), by exact below_⟩)
    · have H1 : Hid (timesI Y.x ⟨0, -1, 1⟩ = some B.x) := Lib.hid HXY.out.1
      have H2 : Hid (timesI Y.y ⟨0, -1, 1⟩ = some B.y) := Lib.hid HXY.out.2
      clear HXY
      go_region_held3 (fun w' => w'.cell? ⟨bY, 0, none⟩ = some (.int .i64 Y.x.re) ∧ w'.cell? ⟨bY, 1, none⟩ = some (.int .i64 Y.x.im) ∧ w'.cell? ⟨bY, 2, none⟩ = some (.int .i64 Y.x.den) ∧ w'.cell? ⟨bY, 3, none⟩ = some (.int .i64 Y.y.re) ∧ w'.cell? ⟨bY, 4, none⟩ = some (.int .i64 Y.y.im) ∧ w'.cell? ⟨bY, 5, none⟩ = some (.int .i64 Y.y.den) ∧ w'.cell? ⟨1, 9, none⟩ = some (.int .i64 0) ∧ w'.cell? ⟨1, 10, none⟩ = some (.int .i64 (-1)) ∧ w'.cell? ⟨1, 11, none⟩ = some (.int .i64 1)) ((first | go_keep | (simp [go_sem, *]; done))) (first | (go_at_call 102; (with_reducible refine (jtimesG Y ⟨0, -1, 1⟩ B.x B.y _ H1 H2).mono ?_); rintro e w1 ⟨rfl, hb⟩; obtain ⟨hc, hf⟩ := bf hb (W2.heap.size) side_; have hs := hb.size; (try simp only [World.size_alloc, World.size_setCell, World.size_drew, World.heap_drewN] at hs); have hl : W2.heap.size ≤ w1.heap.size := (by omega); obtain ⟨B, hBe, hBl, hc2, hf2⟩ := bfA hb; (try simp only [World.size_alloc, World.size_setCell, World.size_drew, World.heap_drewN] at hBe); have hB : Below W2.heap.size W2 w1 := bstep (by exact below_) hb side_; clear hs hb))
      all_goals (go_wp2; go_meet; exact ⟨_, rfl, rfl, (by refine ⟨?_, ?_, ?_, ?_, ?_, ?_⟩ <;> (first | (with_reducible exact World.cell?_alloc_at _ _ _ _ rfl) | (simp [go_sem, *]; done))), (by first | omega | (simp; omega)), by exact below_⟩)
  case rest =>
    obtain ⟨bZ, rfl, rfl, ⟨z0, z1, z2, z3, z4, z5⟩, hbZ, hB⟩ := hcut
    have hz2 := blk_lt (hW2.at (b := w.heap.size + 1 + 1) (cs := jc Z6) (t := 26) (by simp))
    have n1 : bZ ≠ w.heap.size + 1 := by omega
    have n2 : bZ ≠ w.heap.size + 1 + 1 := by omega
    clear q40 q41 q42 q43 q44 q45 q4l
    have hW3 := hW2.step hB
    clear hW2 hB
    obtain ⟨q10, q11, q12, q13, q14, q15⟩ := (blk_j (a := Z6) (hW3.at (b := w.heap.size + 1) (cs := jc Z6) (t := 26) (by simp))).1
    have q1l := blk_lt (hW3.at (b := w.heap.size + 1) (cs := jc Z6) (t := 26) (by simp))
    have q1f := blk_free0 (hW3.at (b := w.heap.size + 1) (cs := jc Z6) (t := 26) (by simp))
    obtain ⟨q20, q21, q22, q23, q24, q25⟩ := (blk_j (a := Z6) (hW3.at (b := w.heap.size + 1 + 1) (cs := jc Z6) (t := 26) (by simp))).1
    have q2l := blk_lt (hW3.at (b := w.heap.size + 1 + 1) (cs := jc Z6) (t := 26) (by simp))
    have q2f := blk_free0 (hW3.at (b := w.heap.size + 1 + 1) (cs := jc Z6) (t := 26) (by simp))
    obtain ⟨q30, q31, q32, q33, q34, q35⟩ := (blk_j (a := A) (hW3.at (b := bX) (cs := jc A) (t := 26) (by simp))).1
    have q3l := blk_lt (hW3.at (b := bX) (cs := jc A) (t := 26) (by simp))
    have hBF := hW3.B
    have hne : w.heap.size + 1 ≠ w.heap.size + 1 + 1 := by omega
    go_upto_region 6 with fail
    go_region
    all_goals (go_wp2; exact bodyPost_ret (v := .tuple #[jnv A, jnv B, .bool true]) (by simp [results, Tryz.results67, go_sem, *]) rfl ⟨rfl, by exact below_⟩)
theorem arms_port_no {a b : List UInt8} {k : Int} {v A B : Jn} (h : armsI a b k v = (A, B, false)) (s : Bool) : portI a b k v s = none := by
  unfold armsI at h
  unfold portI
  cases hk : inB k 0 3
  · rfl
  · rw [hk, if_pos rfl] at h
    rw [if_pos rfl]
    cases h1 : runI a v with
    | none => rfl
    | some x =>
      cases h2 : runI b v with
      | none => rfl
      | some y => rw [h1, h2] at h; simp at h
theorem arms_port {a b : List UInt8} {k : Int} {v A B : Jn} (h : armsI a b k v = (A, B, true)) (s : Bool) : portI a b k v s = (if s then jlessI A B else jaddI A B).bind fun u => jtimesI u ⟨1, 0, 2⟩ := by
  unfold armsI at h
  cases hk : inB k 0 3
  · rw [hk] at h; simp at h
  · rw [hk, if_pos rfl] at h
    cases h1 : runI a v with
    | none => rw [h1] at h; simp at h
    | some x =>
      cases h2 : runI b v with
      | none => rw [h1, h2] at h; simp at h
      | some y =>
        rw [h1, h2] at h
        simp only [Prod.mk.injEq, and_true] at h
        obtain ⟨rfl, rfl⟩ := h
        have hv := (run_keep h2).2.1
        rw [port_mk s hk h1 h2, ← port_eq hv hk, portP, jtimes_ph hv hk, Option.bind_some]
/-- What the sums of the call say of its result. -/
theorem port_val {A B U O : Jn} {n m p q : Bool} {f : Fr → Fr → Option Fr} {g : Jn → Jn → Option Jn} (hg : ∀ a b : Jn, g a b = (f a.x b.x).bind fun x => (f a.y b.y).bind fun y => some ⟨x, y⟩)
    (hx : (f A.x B.x).getD Z3 = U.x ∧ (f A.x B.x).isNone = n) (hy : (f A.y B.y).getD Z3 = U.y ∧ (f A.y B.y).isNone = m) (ho : (timesI U.x ⟨1, 0, 2⟩).getD Z3 = O.x ∧ (timesI U.x ⟨1, 0, 2⟩).isNone = p) (hq : (timesI U.y ⟨1, 0, 2⟩).getD Z3 = O.y ∧ (timesI U.y ⟨1, 0, 2⟩).isNone = q) :
    jnb ((g A B).bind fun u => jtimesI u ⟨1, 0, 2⟩) = .tuple #[jnv (gotF ((((false || n) || m) || p) || q) Z6 O), .bool (!((((false || n) || m) || p) || q))] := by
  rw [hg]
  cases h1 : f A.x B.x with
  | none => rw [h1] at hx; obtain ⟨-, rfl⟩ := hx; cases m <;> cases p <;> cases q <;> rfl
  | some x =>
    rw [h1] at hx
    obtain ⟨e1, rfl⟩ := hx
    cases h2 : f A.y B.y with
    | none => rw [h2] at hy; obtain ⟨-, rfl⟩ := hy; cases p <;> cases q <;> rfl
    | some y =>
      rw [h2] at hy
      obtain ⟨e2, rfl⟩ := hy
      obtain rfl : U = ⟨x, y⟩ := by cases U; simp only at e1 e2; rw [← e1, ← e2]; rfl
      simp only [Option.bind_some]
      unfold jtimesI
      simp only at ho hq ⊢
      cases h3 : timesI x ⟨1, 0, 2⟩ with
      | none => rw [h3] at ho; obtain ⟨-, rfl⟩ := ho; cases q <;> rfl
      | some c =>
        rw [h3] at ho
        obtain ⟨e3, rfl⟩ := ho
        cases h4 : timesI y ⟨1, 0, 2⟩ with
        | none => rw [h4] at hq; obtain ⟨-, rfl⟩ := hq; rfl
        | some d =>
          rw [h4] at hq
          obtain ⟨e4, rfl⟩ := hq
          obtain rfl : O = ⟨c, d⟩ := by cases O; simp only at e3 e4; rw [← e3, ← e4]; rfl
          rfl
set_option maxRecDepth 100000 in
set_option maxHeartbeats 16000000 in
theorem port_f (a b : ByteArray) (k : Int) (v : Jn) (w : World) (ha : a.size ≤ 1048576) (hb2 : b.size ≤ 1048576) (hGP : GP w) :
    Calls Tryz.prog 29 #[.string a, .string b, .int .i64 k, jnv v, .bool false] w fun e w' => e = .returned (jnb (portI a.data.toList b.data.toList k v false)) ∧ Below w.heap.size w w' := by
  obtain ⟨A, B, ok, h0⟩ : ∃ A B ok, armsI a.data.toList b.data.toList k v = (A, B, ok) := ⟨_, _, _, rfl⟩
  have H0 := Lib.hid h0
  clear h0
  go_enter Tryz.func29, Tryz.ntmps29
  obtain ⟨W0, hW, hW0⟩ : ∃ W, W = (w.alloc (.cells #[.int .i64 v.x.re, .int .i64 v.x.im, .int .i64 v.x.den, .int .i64 v.y.re, .int .i64 v.y.im, .int .i64 v.y.den] 26)).alloc (.cells #[.int .i64 0, .int .i64 0, .int .i64 0, .int .i64 0, .int .i64 0, .int .i64 0] 26) ∧ BW w [(w.heap.size + 1, jc Z6, 26), (w.heap.size, jc v, 26)] W := by
    refine ⟨_, rfl, ?_⟩
    have h1 := BW.one w (jc v) 26
    have h2 := h1.push (Below.refl _ _) (jc Z6) 26
    simp only [World.size_alloc] at h2
    exact h2
  go_upto_region 1 with fail
  rw [← hW]
  clear hW
  obtain ⟨q00, q01, q02, q03, q04, q05⟩ := (blk_j (a := v) (hW0.at (b := w.heap.size) (cs := jc v) (t := 26) (by simp))).1
  have q0l := blk_lt (hW0.at (b := w.heap.size) (cs := jc v) (t := 26) (by simp))
  go_upto_region 2 with (first | (go_at_call 67; (with_reducible refine (arms_any a b k v _ ha hb2 (hGP.below hW0.B) A B ok H0).mono ?_); rintro e v1 ⟨rfl, hb⟩))
  clear q00 q01 q02 q03 q04 q05 q0l
  obtain ⟨bA, hbA⟩ : ∃ b, b = v1.heap.size := ⟨_, rfl⟩
  obtain ⟨bB, hbB⟩ : ∃ b, b = bA + 1 := ⟨_, rfl⟩
  obtain ⟨W1, hW, hW1⟩ : ∃ W, W = (v1.alloc (.cells #[.int .i64 A.x.re, .int .i64 A.x.im, .int .i64 A.x.den, .int .i64 A.y.re, .int .i64 A.y.im, .int .i64 A.y.den] 26)).alloc (.cells #[.int .i64 B.x.re, .int .i64 B.x.im, .int .i64 B.x.den, .int .i64 B.y.re, .int .i64 B.y.im, .int .i64 B.y.den] 26) ∧ BW w [(bB, jc B, 26), (bA, jc A, 26), (w.heap.size + 1, jc Z6, 26), (w.heap.size, jc v, 26)] W := by
    refine ⟨_, rfl, ?_⟩
    have h1 := (hW0.push hb (jc A) 26).push (Below.refl _ _) (jc B) 26
    rw [World.size_alloc, ← hbA, ← hbB] at h1
    exact h1
  have hAB : w.heap.size + 1 < bA ∧ bA < bB := by have := blk_lt (hW0.at (b := w.heap.size + 1) (cs := jc Z6) (t := 26) (by simp)); have := hb.size; omega
  rw [← hW, ← hbA, ← hbB]
  clear hW hbA hbB hb hW0
  have hQ0 := hW1.qs
  obtain ⟨bs, hbs⟩ : ∃ b, b = W1.heap.size := ⟨_, rfl⟩
  have hsB : bB < bs := by rw [hbs]; exact blk_lt (hW1.at (b := bB) (cs := jc B) (t := 26) (by simp))
  go_upto_region 3 with (first | (go_at_call 53; (with_reducible refine (x_need ok W1.heap.size _ (SumEx.of hQ0.s)).mono ?_); rintro e w2 ⟨rfl, hu, hx⟩))
  have hQ1 := hQ0.step hx (hu _ hQ0.s)
  rw [← hbs] at hQ1
  rw [← hbs]
  clear hu hx hQ0 hW1 hbs
  cases ok
  · have he := arms_port_no H0.out false
    have HE := Lib.hid he
    obtain ⟨⟨r0, r1, r2, r3, r4, r5⟩, r6, r7, r8, r9, r10, r11⟩ := blk_j (hQ1.at (b := w.heap.size + 1) (cs := jc Z6) (ty := 26) (by simp))
    have hBF := hQ1.B
    clear he
    go_wp2
    exact bodyPost_ret (v := jnb none) (by simp [results, Tryz.results29, go_sem, *]) rfl ⟨by rw [HE.out], by exact below_⟩
  have hQ1 : QS w bs [(bB, jc B, 26), (bA, jc A, 26), (w.heap.size + 1, jc Z6, 26), (w.heap.size, jc v, 26)] false w2 := hQ1
  obtain ⟨U, n, m, hUx, hUy⟩ : ∃ (U : Jn) (n m : Bool), (addI A.x B.x).getD Z3 = U.x ∧ (addI A.x B.x).isNone = n ∧ (addI A.y B.y).getD Z3 = U.y ∧ (addI A.y B.y).isNone = m := ⟨⟨_, _⟩, _, _, rfl, rfl, rfl, rfl⟩
  obtain ⟨O, p, q, hOx, hOy⟩ : ∃ (O : Jn) (p q : Bool), (timesI U.x ⟨1, 0, 2⟩).getD Z3 = O.x ∧ (timesI U.x ⟨1, 0, 2⟩).isNone = p ∧ (timesI U.y ⟨1, 0, 2⟩).getD Z3 = O.y ∧ (timesI U.y ⟨1, 0, 2⟩).isNone = q := ⟨⟨_, _⟩, _, _, rfl, rfl, rfl, rfl⟩
  have hval := port_val (f := addI) (g := jaddI) (fun a b => rfl) ⟨hUx, hUy.1⟩ hUy.2 ⟨hOx, hOy.1⟩ hOy.2
  have HV : Hid (jnb (portI a.data.toList b.data.toList k v false) = .tuple #[jnv (gotF ((((false || n) || m) || p) || q) Z6 O), .bool (!((((false || n) || m) || p) || q))]) := Lib.hid (Eq.trans (congrArg jnb (arms_port H0.out false)) hval)
  have HX : Hid ((addI A.x B.x).getD Z3 = U.x ∧ (addI A.x B.x).isNone = n) := Lib.hid ⟨hUx, hUy.1⟩
  have HY : Hid ((addI A.y B.y).getD Z3 = U.y ∧ (addI A.y B.y).isNone = m) := Lib.hid hUy.2
  have HO1 : Hid ((timesI U.x ⟨1, 0, 2⟩).getD Z3 = O.x ∧ (timesI U.x ⟨1, 0, 2⟩).isNone = p) := Lib.hid ⟨hOx, hOy.1⟩
  have HO2 : Hid ((timesI U.y ⟨1, 0, 2⟩).getD Z3 = O.y ∧ (timesI U.y ⟨1, 0, 2⟩).isNone = q) := Lib.hid hOy.2
  clear hUx hUy hOx hOy hval H0
  go_upto_region 6 with fail
  obtain ⟨bU, hbU⟩ : ∃ b, b = w2.heap.size := ⟨_, rfl⟩
  have hUs : bs < bU := by rw [hbU]; exact hQ1.s.lt
  obtain ⟨W3, hW, hQ3⟩ : ∃ W, W = w2.alloc (.cells #[.int .i64 0, .int .i64 0, .int .i64 0, .int .i64 0, .int .i64 0, .int .i64 0] 26) ∧ QS w bs ((bU, jc Z6, 26) :: [(bB, jc B, 26), (bA, jc A, 26), (w.heap.size + 1, jc Z6, 26), (w.heap.size, jc v, 26)]) false W := by
    refine ⟨_, rfl, ?_⟩
    have h1 := hQ1.push (jc Z6) 26
    rw [← hbU] at h1
    exact h1
  rw [← hW, ← hbU]
  have hUN : ∀ q ∈ ([(bB, jc B, 26), (bA, jc A, 26), (w.heap.size + 1, jc Z6, 26), (w.heap.size, jc v, 26)] : List (Nat × Array Value × TypeId)), q.1 ≠ bU := by intro q hq; simp only [List.mem_cons, List.not_mem_nil, or_false] at hq; rcases hq with rfl | rfl | rfl | rfl <;> (first | (simp only; omega) | omega | (simp; omega))
  have HUN := Lib.hid hUN
  clear hW hbU hQ1 hUN
  have hUl := (hQ3.g _ (by simp : (bU, jc Z6, 26) ∈ _)).1
  go_upto_region 8 with fail
  go_cut [] from 40 to 52 (fun W => QS w bs ((bU, jc U, 26) :: [(bB, jc B, 26), (bA, jc A, 26), (w.heap.size + 1, jc Z6, 26), (w.heap.size, jc v, 26)]) ((false || n) || m) W)
  case first =>
    have HSUB : Hid (∀ W bad, QS w (bs) [(bU, jc Z6, 26), (bB, jc B, 26), (bA, jc A, 26), (w.heap.size + 1, jc Z6, 26), (w.heap.size, jc v, 26)] bad W → QSE w (bs) [(bA, jc A, 26), (bB, jc B, 26)] W) := Lib.hid (fun W bad h => ⟨_, h.sub (by intro q hq; simp only [List.mem_cons, List.not_mem_nil, or_false] at hq; rcases hq with rfl | rfl <;> simp)⟩)
    have HS : Hid (∀ W, QSE w (bs) [(bA, jc A, 26), (bB, jc B, 26)] W → (fun w' => w'.cell? ⟨bA, 0, none⟩ = some (.int .i64 A.x.re) ∧ w'.cell? ⟨bA, 1, none⟩ = some (.int .i64 A.x.im) ∧ w'.cell? ⟨bA, 2, none⟩ = some (.int .i64 A.x.den) ∧ w'.cell? ⟨bA, 3, none⟩ = some (.int .i64 A.y.re) ∧ w'.cell? ⟨bA, 4, none⟩ = some (.int .i64 A.y.im) ∧ w'.cell? ⟨bA, 5, none⟩ = some (.int .i64 A.y.den) ∧ w'.cell? ⟨bB, 0, none⟩ = some (.int .i64 B.x.re) ∧ w'.cell? ⟨bB, 1, none⟩ = some (.int .i64 B.x.im) ∧ w'.cell? ⟨bB, 2, none⟩ = some (.int .i64 B.x.den) ∧ w'.cell? ⟨bB, 3, none⟩ = some (.int .i64 B.y.re) ∧ w'.cell? ⟨bB, 4, none⟩ = some (.int .i64 B.y.im) ∧ w'.cell? ⟨bB, 5, none⟩ = some (.int .i64 B.y.den)) W) := Lib.hid (fun W hE => by
      obtain ⟨bad, h⟩ := hE
      obtain ⟨c00, c01, c02, c03, c04, c05⟩ := (blk_j (a := A) (h.at (b := bA) (cs := jc A) (ty := 26) (by simp))).1
      obtain ⟨c10, c11, c12, c13, c14, c15⟩ := (blk_j (a := B) (h.at (b := bB) (cs := jc B) (ty := 26) (by simp))).1
      exact ⟨c00, c01, c02, c03, c04, c05, c10, c11, c12, c13, c14, c15⟩)
    have HN : Hid (∀ q ∈ ([(bA, jc A, 26), (bB, jc B, 26)] : List (Nat × Array Value × TypeId)), q.1 ≠ bU) := Lib.hid (by intro q hq; simp only [List.mem_cons, List.not_mem_nil, or_false] at hq; rcases hq with rfl | rfl <;> (first | (simp only; omega) | omega | (simp; omega)))
    go_region_held3 (fun w' => w'.cell? ⟨bA, 0, none⟩ = some (.int .i64 A.x.re) ∧ w'.cell? ⟨bA, 1, none⟩ = some (.int .i64 A.x.im) ∧ w'.cell? ⟨bA, 2, none⟩ = some (.int .i64 A.x.den) ∧ w'.cell? ⟨bA, 3, none⟩ = some (.int .i64 A.y.re) ∧ w'.cell? ⟨bA, 4, none⟩ = some (.int .i64 A.y.im) ∧ w'.cell? ⟨bA, 5, none⟩ = some (.int .i64 A.y.den) ∧ w'.cell? ⟨bB, 0, none⟩ = some (.int .i64 B.x.re) ∧ w'.cell? ⟨bB, 1, none⟩ = some (.int .i64 B.x.im) ∧ w'.cell? ⟨bB, 2, none⟩ = some (.int .i64 B.x.den) ∧ w'.cell? ⟨bB, 3, none⟩ = some (.int .i64 B.y.re) ∧ w'.cell? ⟨bB, 4, none⟩ = some (.int .i64 B.y.im) ∧ w'.cell? ⟨bB, 5, none⟩ = some (.int .i64 B.y.den)) (((refine HS.out _ ?_); (repeat' (first | (with_reducible assumption) | (with_reducible exact HSUB.out _ _ (by with_reducible assumption)) | (with_reducible apply QSE.alloc) | (with_reducible apply QSE.drewN) | (with_reducible apply QSE.drew) | ((with_reducible refine QSE.far ?_ ?_ ?_ ?_ _) <;> (first | (with_reducible exact HN.out) | (simp; done) | omega | (simp; omega) | skip)))))) (first | (go_at_call 56; (with_reducible refine (qs_add A.x B.x U.x n HX _ (by (repeat' (first | (with_reducible assumption) | (with_reducible apply QS.alloc) | (with_reducible apply QS.drewN) | (with_reducible apply QS.drew))))).mono ?_); rintro e wd ⟨rfl, hD⟩; have hBd := hD.B; have hld := hD.s.lt; obtain ⟨⟨u0, u1, u2, u3, u4, u5⟩, u6, u7, u8, u9, u10, u11⟩ := blk_j (hD.at (b := bU) (cs := jc Z6) (ty := 26) (by simp))) | (go_at_call 56; (with_reducible refine (qs_add A.y B.y U.y m HY _ (by (repeat' (first | (with_reducible assumption) | (with_reducible apply QS.alloc) | (with_reducible apply QS.drewN) | (with_reducible apply QS.drew))))).mono ?_); rintro e wd ⟨rfl, hD⟩; have hBd := hD.B; have hld := hD.s.lt; obtain ⟨⟨u0, u1, u2, u3, u4, u5⟩, u6, u7, u8, u9, u10, u11⟩ := blk_j (hD.at (b := bU) (cs := jc Z6) (ty := 26) (by simp))))
    all_goals (go_wp2; go_meet; exact hD.set HUN.out (((((((Below.refl _ _).setCell hUl _).setCell hUl _).setCell hUl _).setCell hUl _).setCell hUl _).setCell hUl _) (fun c hc => far6 hc) (blk_set6 (hD.at (b := bU) (cs := jc Z6) (ty := 26) (by simp)) U))
  have hQ := hcut
  clear hcut hQ3
  go_upto_region 10 with fail
  obtain ⟨bH, hbH⟩ : ∃ b, b = wc.heap.size := ⟨_, rfl⟩
  have hHU : bU < bH := by rw [hbH]; exact blk_lt (hQ.at (b := bU) (cs := jc U) (ty := 26) (by simp))
  obtain ⟨W5, hW, hQ5⟩ : ∃ W, W = wc.alloc (.cells #[.int .i64 1, .int .i64 0, .int .i64 2] 24) ∧ QS w bs ((bH, frc ⟨1, 0, 2⟩, 24) :: (bU, jc U, 26) :: [(bB, jc B, 26), (bA, jc A, 26), (w.heap.size + 1, jc Z6, 26), (w.heap.size, jc v, 26)]) ((false || n) || m) W := by
    refine ⟨_, rfl, ?_⟩
    have h1 := hQ.push (frc ⟨1, 0, 2⟩) 24
    rw [← hbH] at h1
    exact h1
  rw [← hW, ← hbH]
  clear hW hbH hQ
  have HSUB : Hid (∀ W bad, QS w (bs) [(bH, frc ⟨1, 0, 2⟩, 24), (bU, jc U, 26), (bB, jc B, 26), (bA, jc A, 26), (w.heap.size + 1, jc Z6, 26), (w.heap.size, jc v, 26)] bad W → QSE w (bs) [(bU, jc U, 26), (bH, frc ⟨1, 0, 2⟩, 24)] W) := Lib.hid (fun W bad h => ⟨_, h.sub (by intro q hq; simp only [List.mem_cons, List.not_mem_nil, or_false] at hq; rcases hq with rfl | rfl <;> simp)⟩)
  have HS : Hid (∀ W, QSE w (bs) [(bU, jc U, 26), (bH, frc ⟨1, 0, 2⟩, 24)] W → (fun w' => w'.cell? ⟨bU, 0, none⟩ = some (.int .i64 U.x.re) ∧ w'.cell? ⟨bU, 1, none⟩ = some (.int .i64 U.x.im) ∧ w'.cell? ⟨bU, 2, none⟩ = some (.int .i64 U.x.den) ∧ w'.cell? ⟨bU, 3, none⟩ = some (.int .i64 U.y.re) ∧ w'.cell? ⟨bU, 4, none⟩ = some (.int .i64 U.y.im) ∧ w'.cell? ⟨bU, 5, none⟩ = some (.int .i64 U.y.den) ∧ w'.cell? ⟨bH, 0, none⟩ = some (.int .i64 1) ∧ w'.cell? ⟨bH, 1, none⟩ = some (.int .i64 0) ∧ w'.cell? ⟨bH, 2, none⟩ = some (.int .i64 2)) W) := Lib.hid (fun W hE => by
    obtain ⟨bad, h⟩ := hE
    obtain ⟨c00, c01, c02, c03, c04, c05⟩ := (blk_j (a := U) (h.at (b := bU) (cs := jc U) (ty := 26) (by simp))).1
    obtain ⟨c10, c11, c12⟩ := blk_fr0 (f := ⟨1, 0, 2⟩) (h.at (b := bH) (cs := frc ⟨1, 0, 2⟩) (ty := 24) (by simp))
    exact ⟨c00, c01, c02, c03, c04, c05, c10, c11, c12⟩)
  have HN : Hid (∀ q ∈ ([(bU, jc U, 26), (bH, frc ⟨1, 0, 2⟩, 24)] : List (Nat × Array Value × TypeId)), q.1 ≠ w.heap.size + 1) := Lib.hid (by intro q hq; simp only [List.mem_cons, List.not_mem_nil, or_false] at hq; rcases hq with rfl | rfl <;> (first | (simp only; omega) | omega | (simp; omega)))
  go_region_held3 (fun w' => w'.cell? ⟨bU, 0, none⟩ = some (.int .i64 U.x.re) ∧ w'.cell? ⟨bU, 1, none⟩ = some (.int .i64 U.x.im) ∧ w'.cell? ⟨bU, 2, none⟩ = some (.int .i64 U.x.den) ∧ w'.cell? ⟨bU, 3, none⟩ = some (.int .i64 U.y.re) ∧ w'.cell? ⟨bU, 4, none⟩ = some (.int .i64 U.y.im) ∧ w'.cell? ⟨bU, 5, none⟩ = some (.int .i64 U.y.den) ∧ w'.cell? ⟨bH, 0, none⟩ = some (.int .i64 1) ∧ w'.cell? ⟨bH, 1, none⟩ = some (.int .i64 0) ∧ w'.cell? ⟨bH, 2, none⟩ = some (.int .i64 2)) (((refine HS.out _ ?_); (repeat' (first | (with_reducible assumption) | (with_reducible exact HSUB.out _ _ (by with_reducible assumption)) | (with_reducible apply QSE.alloc) | (with_reducible apply QSE.drewN) | (with_reducible apply QSE.drew) | ((with_reducible refine QSE.far ?_ ?_ ?_ ?_ _) <;> (first | (with_reducible exact HN.out) | (simp; done) | omega | (simp; omega) | skip)))))) (first | (go_at_call 55; (with_reducible refine (qs_times U.x ⟨1, 0, 2⟩ O.x p HO1 _ (by (repeat' (first | (with_reducible assumption) | (with_reducible apply QS.alloc) | (with_reducible apply QS.drewN) | (with_reducible apply QS.drew))))).mono ?_); rintro e wd ⟨rfl, hD⟩; have hBd := hD.B; have hld := hD.s.lt) | (go_at_call 55; (with_reducible refine (qs_times U.y ⟨1, 0, 2⟩ O.y q HO2 _ (by (repeat' (first | (with_reducible assumption) | (with_reducible apply QS.alloc) | (with_reducible apply QS.drewN) | (with_reducible apply QS.drew))))).mono ?_); rintro e wd ⟨rfl, hD⟩; have hBd := hD.B; have hld := hD.s.lt) | (go_at_call 69; (with_reducible refine (qs_gotJ ⟨_, _⟩ _ (by (repeat' (first | (with_reducible assumption) | (with_reducible apply QS.alloc) | (with_reducible apply QS.drewN) | (with_reducible apply QS.drew))))).mono ?_); rintro e wd ⟨rfl, hD⟩; have hBd := hD.B; have hld := hD.s.lt; obtain ⟨⟨r0, r1, r2, r3, r4, r5⟩, r6, r7, r8, r9, r10, r11⟩ := blk_j (hD.at (b := w.heap.size + 1) (cs := jc Z6) (ty := 26) (by simp))))
  all_goals (go_wp2; refine bodyPost_ret (v := .tuple #[jnv (gotF ((((false || n) || m) || p) || q) Z6 O), .bool (!((((false || n) || m) || p) || q))]) (by simp [results, Tryz.results29, gotF, go_sem, *]) rfl ⟨by rw [HV.out], by exact below_⟩)
set_option maxRecDepth 100000 in
set_option maxHeartbeats 16000000 in
theorem port_t (a b : ByteArray) (k : Int) (v : Jn) (w : World) (ha : a.size ≤ 1048576) (hb2 : b.size ≤ 1048576) (hGP : GP w) :
    Calls Tryz.prog 29 #[.string a, .string b, .int .i64 k, jnv v, .bool true] w fun e w' => e = .returned (jnb (portI a.data.toList b.data.toList k v true)) ∧ Below w.heap.size w w' := by
  obtain ⟨A, B, ok, h0⟩ : ∃ A B ok, armsI a.data.toList b.data.toList k v = (A, B, ok) := ⟨_, _, _, rfl⟩
  have H0 := Lib.hid h0
  clear h0
  go_enter Tryz.func29, Tryz.ntmps29
  obtain ⟨W0, hW, hW0⟩ : ∃ W, W = (w.alloc (.cells #[.int .i64 v.x.re, .int .i64 v.x.im, .int .i64 v.x.den, .int .i64 v.y.re, .int .i64 v.y.im, .int .i64 v.y.den] 26)).alloc (.cells #[.int .i64 0, .int .i64 0, .int .i64 0, .int .i64 0, .int .i64 0, .int .i64 0] 26) ∧ BW w [(w.heap.size + 1, jc Z6, 26), (w.heap.size, jc v, 26)] W := by
    refine ⟨_, rfl, ?_⟩
    have h1 := BW.one w (jc v) 26
    have h2 := h1.push (Below.refl _ _) (jc Z6) 26
    simp only [World.size_alloc] at h2
    exact h2
  go_upto_region 1 with fail
  rw [← hW]
  clear hW
  obtain ⟨q00, q01, q02, q03, q04, q05⟩ := (blk_j (a := v) (hW0.at (b := w.heap.size) (cs := jc v) (t := 26) (by simp))).1
  have q0l := blk_lt (hW0.at (b := w.heap.size) (cs := jc v) (t := 26) (by simp))
  go_upto_region 2 with (first | (go_at_call 67; (with_reducible refine (arms_any a b k v _ ha hb2 (hGP.below hW0.B) A B ok H0).mono ?_); rintro e v1 ⟨rfl, hb⟩))
  clear q00 q01 q02 q03 q04 q05 q0l
  obtain ⟨bA, hbA⟩ : ∃ b, b = v1.heap.size := ⟨_, rfl⟩
  obtain ⟨bB, hbB⟩ : ∃ b, b = bA + 1 := ⟨_, rfl⟩
  obtain ⟨W1, hW, hW1⟩ : ∃ W, W = (v1.alloc (.cells #[.int .i64 A.x.re, .int .i64 A.x.im, .int .i64 A.x.den, .int .i64 A.y.re, .int .i64 A.y.im, .int .i64 A.y.den] 26)).alloc (.cells #[.int .i64 B.x.re, .int .i64 B.x.im, .int .i64 B.x.den, .int .i64 B.y.re, .int .i64 B.y.im, .int .i64 B.y.den] 26) ∧ BW w [(bB, jc B, 26), (bA, jc A, 26), (w.heap.size + 1, jc Z6, 26), (w.heap.size, jc v, 26)] W := by
    refine ⟨_, rfl, ?_⟩
    have h1 := (hW0.push hb (jc A) 26).push (Below.refl _ _) (jc B) 26
    rw [World.size_alloc, ← hbA, ← hbB] at h1
    exact h1
  have hAB : w.heap.size + 1 < bA ∧ bA < bB := by have := blk_lt (hW0.at (b := w.heap.size + 1) (cs := jc Z6) (t := 26) (by simp)); have := hb.size; omega
  rw [← hW, ← hbA, ← hbB]
  clear hW hbA hbB hb hW0
  have hQ0 := hW1.qs
  obtain ⟨bs, hbs⟩ : ∃ b, b = W1.heap.size := ⟨_, rfl⟩
  have hsB : bB < bs := by rw [hbs]; exact blk_lt (hW1.at (b := bB) (cs := jc B) (t := 26) (by simp))
  go_upto_region 3 with (first | (go_at_call 53; (with_reducible refine (x_need ok W1.heap.size _ (SumEx.of hQ0.s)).mono ?_); rintro e w2 ⟨rfl, hu, hx⟩))
  have hQ1 := hQ0.step hx (hu _ hQ0.s)
  rw [← hbs] at hQ1
  rw [← hbs]
  clear hu hx hQ0 hW1 hbs
  cases ok
  · have he := arms_port_no H0.out true
    have HE := Lib.hid he
    obtain ⟨⟨r0, r1, r2, r3, r4, r5⟩, r6, r7, r8, r9, r10, r11⟩ := blk_j (hQ1.at (b := w.heap.size + 1) (cs := jc Z6) (ty := 26) (by simp))
    have hBF := hQ1.B
    clear he
    go_wp2
    exact bodyPost_ret (v := jnb none) (by simp [results, Tryz.results29, go_sem, *]) rfl ⟨by rw [HE.out], by exact below_⟩
  have hQ1 : QS w bs [(bB, jc B, 26), (bA, jc A, 26), (w.heap.size + 1, jc Z6, 26), (w.heap.size, jc v, 26)] false w2 := hQ1
  obtain ⟨U, n, m, hUx, hUy⟩ : ∃ (U : Jn) (n m : Bool), (lessI A.x B.x).getD Z3 = U.x ∧ (lessI A.x B.x).isNone = n ∧ (lessI A.y B.y).getD Z3 = U.y ∧ (lessI A.y B.y).isNone = m := ⟨⟨_, _⟩, _, _, rfl, rfl, rfl, rfl⟩
  obtain ⟨O, p, q, hOx, hOy⟩ : ∃ (O : Jn) (p q : Bool), (timesI U.x ⟨1, 0, 2⟩).getD Z3 = O.x ∧ (timesI U.x ⟨1, 0, 2⟩).isNone = p ∧ (timesI U.y ⟨1, 0, 2⟩).getD Z3 = O.y ∧ (timesI U.y ⟨1, 0, 2⟩).isNone = q := ⟨⟨_, _⟩, _, _, rfl, rfl, rfl, rfl⟩
  have hval := port_val (f := lessI) (g := jlessI) (fun a b => rfl) ⟨hUx, hUy.1⟩ hUy.2 ⟨hOx, hOy.1⟩ hOy.2
  have HV : Hid (jnb (portI a.data.toList b.data.toList k v true) = .tuple #[jnv (gotF ((((false || n) || m) || p) || q) Z6 O), .bool (!((((false || n) || m) || p) || q))]) := Lib.hid (Eq.trans (congrArg jnb (arms_port H0.out true)) hval)
  have HX : Hid ((lessI A.x B.x).getD Z3 = U.x ∧ (lessI A.x B.x).isNone = n) := Lib.hid ⟨hUx, hUy.1⟩
  have HY : Hid ((lessI A.y B.y).getD Z3 = U.y ∧ (lessI A.y B.y).isNone = m) := Lib.hid hUy.2
  have HO1 : Hid ((timesI U.x ⟨1, 0, 2⟩).getD Z3 = O.x ∧ (timesI U.x ⟨1, 0, 2⟩).isNone = p) := Lib.hid ⟨hOx, hOy.1⟩
  have HO2 : Hid ((timesI U.y ⟨1, 0, 2⟩).getD Z3 = O.y ∧ (timesI U.y ⟨1, 0, 2⟩).isNone = q) := Lib.hid hOy.2
  clear hUx hUy hOx hOy hval H0
  go_upto_region 6 with fail
  obtain ⟨bU, hbU⟩ : ∃ b, b = w2.heap.size := ⟨_, rfl⟩
  have hUs : bs < bU := by rw [hbU]; exact hQ1.s.lt
  obtain ⟨W3, hW, hQ3⟩ : ∃ W, W = w2.alloc (.cells #[.int .i64 0, .int .i64 0, .int .i64 0, .int .i64 0, .int .i64 0, .int .i64 0] 26) ∧ QS w bs ((bU, jc Z6, 26) :: [(bB, jc B, 26), (bA, jc A, 26), (w.heap.size + 1, jc Z6, 26), (w.heap.size, jc v, 26)]) false W := by
    refine ⟨_, rfl, ?_⟩
    have h1 := hQ1.push (jc Z6) 26
    rw [← hbU] at h1
    exact h1
  rw [← hW, ← hbU]
  have hUN : ∀ q ∈ ([(bB, jc B, 26), (bA, jc A, 26), (w.heap.size + 1, jc Z6, 26), (w.heap.size, jc v, 26)] : List (Nat × Array Value × TypeId)), q.1 ≠ bU := by intro q hq; simp only [List.mem_cons, List.not_mem_nil, or_false] at hq; rcases hq with rfl | rfl | rfl | rfl <;> (first | (simp only; omega) | omega | (simp; omega))
  have HUN := Lib.hid hUN
  clear hW hbU hQ1 hUN
  have hUl := (hQ3.g _ (by simp : (bU, jc Z6, 26) ∈ _)).1
  obtain ⟨⟨a0, a1, a2, a3, a4, a5⟩, -⟩ := blk_j (hQ3.at (b := bA) (cs := jc A) (ty := 26) (by simp))
  obtain ⟨⟨b0, b1, b2, b3, b4, b5⟩, -⟩ := blk_j (hQ3.at (b := bB) (cs := jc B) (ty := 26) (by simp))
  go_upto_region 9 with (first | (go_at_call 68; (with_reducible refine (qs_lessV A B U n m HX HY hQ3).mono ?_); rintro e wq ⟨rfl, hQ4⟩; obtain ⟨⟨u0, u1, u2, u3, u4, u5⟩, u6, u7, u8, u9, u10, u11⟩ := blk_j (hQ4.at (b := bU) (cs := jc Z6) (ty := 26) (by simp))))
  obtain ⟨W4, hW, hQ⟩ : ∃ W, W = (((((wq.setCell ⟨bU, 0, none⟩ (.int .i64 U.x.re)).setCell ⟨bU, 1, none⟩ (.int .i64 U.x.im)).setCell ⟨bU, 2, none⟩ (.int .i64 U.x.den)).setCell ⟨bU, 3, none⟩ (.int .i64 U.y.re)).setCell ⟨bU, 4, none⟩ (.int .i64 U.y.im)).setCell ⟨bU, 5, none⟩ (.int .i64 U.y.den) ∧ QS w bs ((bU, jc U, 26) :: [(bB, jc B, 26), (bA, jc A, 26), (w.heap.size + 1, jc Z6, 26), (w.heap.size, jc v, 26)]) ((false || n) || m) W :=
    ⟨_, rfl, hQ4.set HUN.out (((((((Below.refl _ _).setCell hUl _).setCell hUl _).setCell hUl _).setCell hUl _).setCell hUl _).setCell hUl _) (fun c hc => far6 hc) (blk_set6 (hQ4.at (b := bU) (cs := jc Z6) (ty := 26) (by simp)) U)⟩
  rw [← hW]
  clear hW hQ4 hQ3 a0 a1 a2 a3 a4 a5 b0 b1 b2 b3 b4 b5 u0 u1 u2 u3 u4 u5 u6 u7 u8 u9 u10 u11 hUl
  go_upto_region 10 with fail
  obtain ⟨bH, hbH⟩ : ∃ b, b = W4.heap.size := ⟨_, rfl⟩
  have hHU : bU < bH := by rw [hbH]; exact blk_lt (hQ.at (b := bU) (cs := jc U) (ty := 26) (by simp))
  obtain ⟨W5, hW, hQ5⟩ : ∃ W, W = W4.alloc (.cells #[.int .i64 1, .int .i64 0, .int .i64 2] 24) ∧ QS w bs ((bH, frc ⟨1, 0, 2⟩, 24) :: (bU, jc U, 26) :: [(bB, jc B, 26), (bA, jc A, 26), (w.heap.size + 1, jc Z6, 26), (w.heap.size, jc v, 26)]) ((false || n) || m) W := by
    refine ⟨_, rfl, ?_⟩
    have h1 := hQ.push (frc ⟨1, 0, 2⟩) 24
    rw [← hbH] at h1
    exact h1
  rw [← hW, ← hbH]
  clear hW hbH hQ
  have HSUB : Hid (∀ W bad, QS w (bs) [(bH, frc ⟨1, 0, 2⟩, 24), (bU, jc U, 26), (bB, jc B, 26), (bA, jc A, 26), (w.heap.size + 1, jc Z6, 26), (w.heap.size, jc v, 26)] bad W → QSE w (bs) [(bU, jc U, 26), (bH, frc ⟨1, 0, 2⟩, 24)] W) := Lib.hid (fun W bad h => ⟨_, h.sub (by intro q hq; simp only [List.mem_cons, List.not_mem_nil, or_false] at hq; rcases hq with rfl | rfl <;> simp)⟩)
  have HS : Hid (∀ W, QSE w (bs) [(bU, jc U, 26), (bH, frc ⟨1, 0, 2⟩, 24)] W → (fun w' => w'.cell? ⟨bU, 0, none⟩ = some (.int .i64 U.x.re) ∧ w'.cell? ⟨bU, 1, none⟩ = some (.int .i64 U.x.im) ∧ w'.cell? ⟨bU, 2, none⟩ = some (.int .i64 U.x.den) ∧ w'.cell? ⟨bU, 3, none⟩ = some (.int .i64 U.y.re) ∧ w'.cell? ⟨bU, 4, none⟩ = some (.int .i64 U.y.im) ∧ w'.cell? ⟨bU, 5, none⟩ = some (.int .i64 U.y.den) ∧ w'.cell? ⟨bH, 0, none⟩ = some (.int .i64 1) ∧ w'.cell? ⟨bH, 1, none⟩ = some (.int .i64 0) ∧ w'.cell? ⟨bH, 2, none⟩ = some (.int .i64 2)) W) := Lib.hid (fun W hE => by
    obtain ⟨bad, h⟩ := hE
    obtain ⟨c00, c01, c02, c03, c04, c05⟩ := (blk_j (a := U) (h.at (b := bU) (cs := jc U) (ty := 26) (by simp))).1
    obtain ⟨c10, c11, c12⟩ := blk_fr0 (f := ⟨1, 0, 2⟩) (h.at (b := bH) (cs := frc ⟨1, 0, 2⟩) (ty := 24) (by simp))
    exact ⟨c00, c01, c02, c03, c04, c05, c10, c11, c12⟩)
  have HN : Hid (∀ q ∈ ([(bU, jc U, 26), (bH, frc ⟨1, 0, 2⟩, 24)] : List (Nat × Array Value × TypeId)), q.1 ≠ w.heap.size + 1) := Lib.hid (by intro q hq; simp only [List.mem_cons, List.not_mem_nil, or_false] at hq; rcases hq with rfl | rfl <;> (first | (simp only; omega) | omega | (simp; omega)))
  go_region_held3 (fun w' => w'.cell? ⟨bU, 0, none⟩ = some (.int .i64 U.x.re) ∧ w'.cell? ⟨bU, 1, none⟩ = some (.int .i64 U.x.im) ∧ w'.cell? ⟨bU, 2, none⟩ = some (.int .i64 U.x.den) ∧ w'.cell? ⟨bU, 3, none⟩ = some (.int .i64 U.y.re) ∧ w'.cell? ⟨bU, 4, none⟩ = some (.int .i64 U.y.im) ∧ w'.cell? ⟨bU, 5, none⟩ = some (.int .i64 U.y.den) ∧ w'.cell? ⟨bH, 0, none⟩ = some (.int .i64 1) ∧ w'.cell? ⟨bH, 1, none⟩ = some (.int .i64 0) ∧ w'.cell? ⟨bH, 2, none⟩ = some (.int .i64 2)) (((refine HS.out _ ?_); (repeat' (first | (with_reducible assumption) | (with_reducible exact HSUB.out _ _ (by with_reducible assumption)) | (with_reducible apply QSE.alloc) | (with_reducible apply QSE.drewN) | (with_reducible apply QSE.drew) | ((with_reducible refine QSE.far ?_ ?_ ?_ ?_ _) <;> (first | (with_reducible exact HN.out) | (simp; done) | omega | (simp; omega) | skip)))))) (first | (go_at_call 55; (with_reducible refine (qs_times U.x ⟨1, 0, 2⟩ O.x p HO1 _ (by (repeat' (first | (with_reducible assumption) | (with_reducible apply QS.alloc) | (with_reducible apply QS.drewN) | (with_reducible apply QS.drew))))).mono ?_); rintro e wd ⟨rfl, hD⟩; have hBd := hD.B; have hld := hD.s.lt) | (go_at_call 55; (with_reducible refine (qs_times U.y ⟨1, 0, 2⟩ O.y q HO2 _ (by (repeat' (first | (with_reducible assumption) | (with_reducible apply QS.alloc) | (with_reducible apply QS.drewN) | (with_reducible apply QS.drew))))).mono ?_); rintro e wd ⟨rfl, hD⟩; have hBd := hD.B; have hld := hD.s.lt) | (go_at_call 69; (with_reducible refine (qs_gotJ ⟨_, _⟩ _ (by (repeat' (first | (with_reducible assumption) | (with_reducible apply QS.alloc) | (with_reducible apply QS.drewN) | (with_reducible apply QS.drew))))).mono ?_); rintro e wd ⟨rfl, hD⟩; have hBd := hD.B; have hld := hD.s.lt; obtain ⟨⟨r0, r1, r2, r3, r4, r5⟩, r6, r7, r8, r9, r10, r11⟩ := blk_j (hD.at (b := w.heap.size + 1) (cs := jc Z6) (ty := 26) (by simp))))
  all_goals (go_wp2; refine bodyPost_ret (v := .tuple #[jnv (gotF ((((false || n) || m) || p) || q) Z6 O), .bool (!((((false || n) || m) || p) || q))]) (by simp [results, Tryz.results29, gotF, go_sem, *]) rfl ⟨by rw [HV.out], by exact below_⟩)
theorem port_any (a b : ByteArray) (k : Int) (v : Jn) (s : Bool) (w : World) (ha : a.size ≤ 1048576) (hb : b.size ≤ 1048576) (hG : GP w) :
    Calls Tryz.prog 29 #[.string a, .string b, .int .i64 k, jnv v, .bool s] w fun e w' => e = .returned (jnb (portI a.data.toList b.data.toList k v s)) ∧ Below w.heap.size w w' := by
  cases s
  · exact port_f a b k v w ha hb hG
  · exact port_t a b k v w ha hb hG
end
section
open Go.RowKit
attribute [local go_sem ↓] Go.wp_at_zero Go.wp_at_succ
theorem port_m (a b : ByteArray) (k : Int) (v : Jn) (s : Bool) (X : Jn) (p : Bool) (w : World) (ha : a.size ≤ 1048576) (hb : b.size ≤ 1048576) (hG : GP w) (e : Hid ((portI a.data.toList b.data.toList k v s).getD Z6 = X ∧ (portI a.data.toList b.data.toList k v s).isSome = p)) :
    Calls Tryz.prog 29 #[.string a, .string b, .int .i64 k, jnv v, .bool s] w fun e w' => e = .returned (.tuple #[jnv X, .bool p]) ∧ Below w.heap.size w w' := by
  rw [← e.out.1, ← e.out.2]; exact port_any a b k v s w ha hb hG
theorem jpowerX_m (a : Jn) (F : Fr) (q : Bool) (w : World) (e : Hid ((jpowerI a).getD Z3 = F ∧ (jpowerI a).isSome = q)) :
    Calls Tryz.prog 35 #[jnv a] w fun e w' => e = .returned (.tuple #[frv F, .bool q]) ∧ Below w.heap.size w w' := by
  rw [← e.out.1, ← e.out.2]; exact jpower_any a w
set_option maxRecDepth 100000 in
set_option maxHeartbeats 8000000 in
theorem fringes_any (a b : ByteArray) (v : Jn) (w : World) (ha : a.size ≤ 1048576) (hb2 : b.size ≤ 1048576) (hGP : GP w) :
    Calls Tryz.prog 15 #[.string a, .string b, jnv v] w fun e w' => ∃ lv, e = .returned (.tuple #[lv, .bool (fringesI a.data.toList b.data.toList v).isSome]) ∧ OwF w.heap.size lv ((fringesI a.data.toList b.data.toList v).getD []) w' ∧ Below w.heap.size w w' := by
  obtain ⟨W0, hW0, hQ0⟩ : ∃ W, W = (w.alloc (.cells #[.int .i64 v.x.re, .int .i64 v.x.im, .int .i64 v.x.den, .int .i64 v.y.re, .int .i64 v.y.im, .int .i64 v.y.den] 26)).alloc (.cells #[] 24) ∧ FW w v (.slice (some ⟨w.heap.size + 1, 0, none⟩) 0 0) [] W := by
    refine ⟨_, rfl, by exact below_, (Below.heap_alloc _ _ _ (by simp)).trans (heap_alloc_last w _), ?_⟩
    have := OwF.made (w.alloc (.cells #[.int .i64 v.x.re, .int .i64 v.x.im, .int .i64 v.x.den, .int .i64 v.y.re, .int .i64 v.y.im, .int .i64 v.y.den] 26)) (w.heap.size + 1) (by simp)
    rwa [World.size_alloc] at this
  go_enter Tryz.func15, Tryz.ntmps15
  go_upto_region 2 with fail
  rw [← hW0]
  clear hW0
  go_upto_region 3 with fail
  go_loopw [8, 15] (fun lv iv wr => ∃ (k : Nat) (fs : List Fr), k ≤ 4 ∧ iv = .int .i64 k ∧ Hid (allM (fringeI a.data.toList b.data.toList v) (([0, 1, 2, 3] : List Int).take k) = some fs ∧ fs.length = k) ∧ FW w v lv fs wr) (fun _ iv _ => 4 - (intOf iv).toNat)
  case atStart => exact ⟨0, [], by omega, rfl, Lib.hid ⟨rfl, rfl⟩, hQ0⟩
  case round =>
    clear hQ0
    obtain ⟨k, fs, hk, rfl, hall, hQ⟩ := hrel
    have hzw := hQ.B.size
    have hkw : IntKind.i64.wrap ((k : Int) + 1) = (k : Int) + 1 := IntWalk.i64_in _ (by omega)
    by_cases hkl : k < 4
    · have hki : (k : Int) < 4 := by omega
      obtain ⟨X, p, hX⟩ : ∃ X p, (portI a.data.toList b.data.toList k v false).getD Z6 = X ∧ (portI a.data.toList b.data.toList k v false).isSome = p := ⟨_, _, rfl, rfl⟩
      obtain ⟨F, q, hF⟩ : ∃ F q, (jpowerI X).getD Z3 = F ∧ (jpowerI X).isSome = q := ⟨_, _, rfl, rfl⟩
      have HX := Lib.hid hX
      have HF := Lib.hid hF
      clear hX hF
      obtain ⟨⟨j0, j1, j2, j3, j4, j5⟩, -⟩ := blk_j hQ.j
      go_upto_region 6 with (go_at_call 29; (with_reducible refine (port_m a b k v false X p _ ha hb2 (hGP.below hQ.B) HX).mono ?_); rintro e w1 ⟨rfl, hb⟩)
      have hQ1 := hQ.below hb
      clear j0 j1 j2 j3 j4 j5 hQ hb
      obtain ⟨bX, hbX⟩ : ∃ x, x = w1.heap.size := ⟨_, rfl⟩
      obtain ⟨W1, hW1, hQ2, hC⟩ : ∃ W, W = w1.alloc (.cells #[.int .i64 X.x.re, .int .i64 X.x.im, .int .i64 X.x.den, .int .i64 X.y.re, .int .i64 X.y.im, .int .i64 X.y.den] 26) ∧ FW w v _ fs W ∧ Blk W bX (jc X) 26 :=
        ⟨_, rfl, hQ1.below ((Below.refl _ _).alloc (Nat.le_refl _) _), by rw [hbX]; exact heap_alloc_last w1 _⟩
      rw [← hW1, ← hbX]
      have hzw := hQ2.B.size
      clear hW1 hbX hQ1
      obtain ⟨⟨j0, j1, j2, j3, j4, j5⟩, -⟩ := blk_j hC
      go_upto_region 7 with (go_at_call 35; (with_reducible refine (jpowerX_m X F q _ HF).mono ?_); rintro e w2 ⟨rfl, hb⟩)
      have hQ3 := hQ2.below hb
      clear j0 j1 j2 j3 j4 j5 hQ2 hC hb
      obtain ⟨bF, hbF⟩ : ∃ x, x = w2.heap.size := ⟨_, rfl⟩
      obtain ⟨W2, hW2, hQ4, hC⟩ : ∃ W, W = w2.alloc (.cells #[.int .i64 F.re, .int .i64 F.im, .int .i64 F.den] 24) ∧ FW w v _ fs W ∧ Blk W bF (frc F) 24 :=
        ⟨_, rfl, hQ3.below ((Below.refl _ _).alloc (Nat.le_refl _) _), by rw [hbF]; exact heap_alloc_last w2 _⟩
      rw [← hW2, ← hbF]
      have hzw := hQ4.B.size
      clear hW2 hbF hQ3
      cases p
      · skip
        have hn := fringes_no hkl (fringe_no HX.out HF.out (.inl rfl))
        have HE := Lib.hid hn
        have hO9 := OwF.made W2 w.heap.size hQ4.B.size
        have hB9 := hQ4.B.alloc hQ4.B.size (.cells #[] 24)
        clear hn HX HF hall hC
        go_wp2
        go_ret2
        exact ⟨_, by rw [HE.out]; rfl, by rw [HE.out]; exact hO9, hB9⟩
      cases q
      · skip
        have hn := fringes_no hkl (fringe_no HX.out HF.out (.inr rfl))
        have HE := Lib.hid hn
        have hO9 := OwF.made W2 w.heap.size hQ4.B.size
        have hB9 := hQ4.B.alloc hQ4.B.size (.cells #[] 24)
        clear hn HX HF hall hC
        go_wp2
        go_ret2
        exact ⟨_, by rw [HE.out]; rfl, by rw [HE.out]; exact hO9, hB9⟩
      have HY := Lib.hid (fringe_yes HX.out HF.out rfl rfl)
      have hlen : fs.length < 4000000 := by have := hall.out.2; omega
      have HLN := Lib.hid hall.out.2
      obtain ⟨f0, f1, f2⟩ := blk_fr0 hC
      have hzo : w.heap.size + 1 ≤ W2.heap.size := by have := blk_lt hQ4.j; omega
      clear HX HF
      go_wp2_with (at_builtin; refine append_fr rfl (.tmp 38) (.tmp 40) rfl (w.heap.size + 1) _ _ _ (by rfl) hQ4.o F (by rfl) hlen hzo ?_; intro v2 w6 hO6 hg6; refine Hid.out ?_)
      refine Lib.hid ?_
      have hQ5 := hQ4.grown hg6 hO6
      clear hO6 hg6 hQ4 hC f0 f1 f2
      go_wp2
      go_roundw
      case rel => exact ⟨k + 1, fs ++ [F], by omega, by go_num, Lib.hid ⟨allM_take hall.out.1 (four_at hkl) HY.out, by rw [List.length_append, HLN.out]; rfl⟩, hQ5⟩
      case measure => simp [intOf]; omega
    · obtain rfl : k = 4 := by omega
      have he : fringesI a.data.toList b.data.toList v = some fs := hall.out.1
      have HE := Lib.hid he
      clear he
      go_wp2
      go_ret2
      exact ⟨_, by rw [HE.out]; rfl, by rw [HE.out]; exact hQ.o.mono (by omega), hQ.B⟩
end
end Go.Proofs.YtjbnkefeacineaaGreatDoor
