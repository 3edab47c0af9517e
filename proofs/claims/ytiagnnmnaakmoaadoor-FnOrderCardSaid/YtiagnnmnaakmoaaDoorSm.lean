/-
  The reckoning that remembers whether something on the way was none: what each of its methods does to it.
-/
import Derived.Test.YtiagnnmnaakmoaaDoorWd
namespace Go.Proofs.YtiagnnmnaakmoaaDoor
set_option linter.unusedSimpArgs false
set_option linter.unusedVariables false
open Go.RowKit
/-- Below block number B, but for block bs, the world w' is as w was. -/
structure BelX (B bs : Nat) (w w' : World) : Prop where
  os : w'.os = w.os
  tape : w'.tape = w.tape
  output : w'.output = w.output
  size : w.heap.size ≤ w'.heap.size
  block : ∀ k, k < B → k ≠ bs → w'.heap[k]? = w.heap[k]?
theorem BelX.refl (B bs : Nat) (w : World) : BelX B bs w w := ⟨rfl, rfl, rfl, Nat.le_refl _, fun _ _ _ => rfl⟩
theorem BelX.trans {B bs : Nat} {a b c : World} (h : BelX B bs a b) (k : BelX B bs b c) : BelX B bs a c :=
  ⟨k.os.trans h.os, k.tape.trans h.tape, k.output.trans h.output, Nat.le_trans h.size k.size, fun i hi hn => (k.block i hi hn).trans (h.block i hi hn)⟩
theorem BelX.mono {B B' bs : Nat} {w w' : World} (h : BelX B bs w w') (hB : B' ≤ B) : BelX B' bs w w' := ⟨h.os, h.tape, h.output, h.size, fun k hk hn => h.block k (Nat.lt_of_lt_of_le hk hB) hn⟩
theorem BelX.of {B bs : Nat} {w w' : World} (h : Below B w w') : BelX B bs w w' := ⟨h.os, h.tape, h.output, h.size, fun k hk _ => h.block k hk⟩
theorem BelX.below {B bs : Nat} {w w' : World} (h : BelX B bs w w') (hb : B ≤ bs) : Below B w w' := ⟨h.os, h.tape, h.output, h.size, fun k hk => h.block k hk (by omega)⟩
theorem BelX.alloc {B bs : Nat} {a w : World} (h : BelX B bs a w) (hB : B ≤ w.heap.size) (o : Obj) : BelX B bs a (w.alloc o) := h.trans (.of ((Below.refl _ _).alloc hB o))
theorem BelX.drew {B bs : Nat} {a w : World} (h : BelX B bs a w) : BelX B bs a w.drew := h.trans (.of ((Below.refl _ _).drew))
theorem BelX.drewN {B bs : Nat} {a w : World} (h : BelX B bs a w) (n : Nat) : BelX B bs a (w.drewN n) := h.trans (.of (below_drewN (Below.refl _ _) n))
theorem BelX.setCell {B bs : Nat} {a w : World} (h : BelX B bs a w) {p : Addr} (hp : B ≤ p.block) (u : Value) : BelX B bs a (w.setCell p u) := h.trans (.of ((Below.refl _ _).setCell hp u))
theorem BelX.setSum {B bs o : Nat} {a w : World} (h : BelX B bs a w) (u : Value) : BelX B bs a (w.setCell ⟨bs, o, none⟩ u) :=
  h.trans ⟨rfl, rfl, rfl, by simp, fun k _ hn => Below.heap_setCell _ _ _ _ hn⟩
theorem BelX.step {B bs : Nat} {w W w1 : World} (h : BelX B bs w W) (hb : BelX W.heap.size bs W w1) (hB : B ≤ W.heap.size) : BelX B bs w w1 := h.trans (hb.mono hB)
theorem BelX.stepB {B bs : Nat} {w W w1 : World} (h : BelX B bs w W) (hb : Below W.heap.size W w1) (hB : B ≤ W.heap.size) : BelX B bs w w1 := h.trans (.of (hb.mono hB))
theorem bfxL {W w1 : World} {bs : Nat} (hb : BelX W.heap.size bs W w1) (hB : bs ≤ W.heap.size) : (∀ b o, b < bs → w1.cell? ⟨b, o, none⟩ = W.cell? ⟨b, o, none⟩) ∧ (∀ b o, b < bs → w1.frozen? ⟨b, o, none⟩ = W.frozen? ⟨b, o, none⟩) :=
  ⟨fun b o h => World.cell?_of_block (w := W) (hb.block b (Nat.lt_of_lt_of_le h hB) (by omega)), fun b o h => World.frozen?_of_block (w := W) (hb.block b (Nat.lt_of_lt_of_le h hB) (by omega))⟩
theorem bfxU {W w1 : World} {bs : Nat} (hb : BelX W.heap.size bs W w1) (B : Nat) (hB : B ≤ W.heap.size) : (∀ b o, bs < b → b < B → w1.cell? ⟨b, o, none⟩ = W.cell? ⟨b, o, none⟩) ∧ (∀ b o, bs < b → b < B → w1.frozen? ⟨b, o, none⟩ = W.frozen? ⟨b, o, none⟩) :=
  ⟨fun b o hn h => World.cell?_of_block (w := W) (hb.block b (Nat.lt_of_lt_of_le h hB) (by omega)), fun b o hn h => World.frozen?_of_block (w := W) (hb.block b (Nat.lt_of_lt_of_le h hB) (by omega))⟩
theorem bfxO {W w1 : World} {bs : Nat} (hb : BelX W.heap.size bs W w1) (lo B : Nat) (hl : bs < lo) (hB : B ≤ W.heap.size) : (∀ b o, lo < b + 1 → b < B → w1.cell? ⟨b, o, none⟩ = W.cell? ⟨b, o, none⟩) ∧ (∀ b o, lo < b + 1 → b < B → w1.frozen? ⟨b, o, none⟩ = W.frozen? ⟨b, o, none⟩) :=
  ⟨fun b o hn h => World.cell?_of_block (w := W) (hb.block b (Nat.lt_of_lt_of_le h hB) (by omega)), fun b o hn h => World.frozen?_of_block (w := W) (hb.block b (Nat.lt_of_lt_of_le h hB) (by omega))⟩

/-- Block bs is a reckoning; bad: whether something was none. -/
def SumIs (w : World) (bs : Nat) (bad : Bool) : Prop := w.heap[bs]? = some (.cells #[.bool bad] 75 (0, 0))
section
variable {w w' : World} {bs : Nat} {b : Bool}
theorem SumIs.lt (h : SumIs w bs b) : bs < w.heap.size := by
  rcases Nat.lt_or_ge bs w.heap.size with hlt | hge
  · exact hlt
  · unfold SumIs at h; rw [Array.getElem?_eq_none hge] at h; cases h
theorem SumIs.cell (h : SumIs w bs b) : w.cell? ⟨bs, 0, none⟩ = some (.bool b) := by unfold SumIs at h; simp [World.cell?, h]
theorem SumIs.frozen (h : SumIs w bs b) : w.frozen? ⟨bs, 0, none⟩ = false := by unfold SumIs at h; simp [World.frozen?, h]
theorem SumIs.drew (h : SumIs w bs b) : SumIs w.drew bs b := h
theorem SumIs.drewN (h : SumIs w bs b) (n : Nat) : SumIs (w.drewN n) bs b := h
theorem SumIs.alloc (h : SumIs w bs b) (o : Obj) : SumIs (w.alloc o) bs b := (Below.heap_alloc w o bs h.lt).trans h
theorem SumIs.set (h : SumIs w bs b) (c : Bool) : SumIs (w.setCell ⟨bs, 0, none⟩ (.bool c)) bs c := by
  unfold SumIs at h ⊢
  simp [World.setCell, Array.getElem?_modify, h]
theorem SumIs.far (h : SumIs w bs b) {p : Addr} (hp : bs ≠ p.block) (u : Value) : SumIs (w.setCell p u) bs b := (Below.heap_setCell w p u bs hp).trans h
theorem SumIs.below {B : Nat} (h : SumIs w bs b) (hb : Below B w w') (hlt : bs < B) : SumIs w' bs b := (hb.block bs hlt).trans h
theorem SumIs.new (w : World) (b : Bool) : SumIs (w.alloc (.cells #[.bool b] 75)) w.heap.size b := by show (w.heap.push _)[w.heap.size]? = _; simp
theorem SumIs.new' {w : World} {b : Bool} {bs : Nat} (h : bs = w.heap.size) : SumIs (w.alloc (.cells #[.bool b] 75)) bs b := h ▸ SumIs.new w b
def SumEx (w : World) (bs : Nat) : Prop := ∃ b, SumIs w bs b
theorem SumEx.of (h : SumIs w bs b) : SumEx w bs := ⟨b, h⟩
theorem SumEx.drew (h : SumEx w bs) : SumEx w.drew bs := h
theorem SumEx.drewN (h : SumEx w bs) (n : Nat) : SumEx (w.drewN n) bs := h
theorem SumEx.alloc (h : SumEx w bs) (o : Obj) : SumEx (w.alloc o) bs := ⟨_, h.choose_spec.alloc o⟩
theorem SumEx.far (h : SumEx w bs) {p : Addr} (hp : bs ≠ p.block) (u : Value) : SumEx (w.setCell p u) bs := ⟨_, h.choose_spec.far hp u⟩
theorem SumIs.setEx (h : SumEx w bs) (c : Bool) : SumIs (w.setCell ⟨bs, 0, none⟩ (.bool c)) bs c := h.choose_spec.set c
theorem SumIs.uniq {c : Bool} (h : SumIs w bs b) (k : SumIs w bs c) : b = c := by
  unfold SumIs at h k; rw [h] at k; simpa using k
theorem SumIs.sub (h : SumIs w bs b) {c : Bool} (e : b = c) : SumIs w bs c := e ▸ h
end
set_option maxHeartbeats 400000 in
theorem keep_t (a : Fr) (bs : Nat) (bad : Bool) (w : World) (hs : SumIs w bs bad) :
    Calls Tryd.prog 69 #[.pointer (some ⟨bs, 0, none⟩), frv a, .bool true] w fun e w' => e = .returned (frv a) ∧ SumIs w' bs bad ∧ BelX w.heap.size bs w w' := by
  have hlt := hs.lt
  go_enter Tryd.func69, Tryd.ntmps69
  go_wp2
  exact bodyPost_ret (v := frv a) (by simp [results, Tryd.results69, go_sem, *]) rfl ⟨rfl, by exact sum_, by exact belx_⟩
set_option maxHeartbeats 400000 in
theorem keep_f (a : Fr) (bs : Nat) (bad : Bool) (w : World) (hs : SumIs w bs bad) :
    Calls Tryd.prog 69 #[.pointer (some ⟨bs, 0, none⟩), frv a, .bool false] w fun e w' => e = .returned (frv ⟨0, 0, 0⟩) ∧ SumIs w' bs true ∧ BelX w.heap.size bs w w' := by
  have hlt := hs.lt
  have hcs := hs.cell
  have hfs := hs.frozen
  have hne : w.heap.size ≠ bs ∧ w.heap.size + 1 ≠ bs := ⟨by omega, by omega⟩
  go_enter Tryd.func69, Tryd.ntmps69
  go_wp2
  exact bodyPost_ret (v := frv ⟨0, 0, 0⟩) (by simp [results, Tryd.results69, go_sem, *]) rfl ⟨rfl, by exact sum_, by exact belx_⟩
theorem keep_any (o : Option Fr) (bs : Nat) (bad : Bool) (w : World) (hs : SumIs w bs bad) :
    Calls Tryd.prog 69 #[.pointer (some ⟨bs, 0, none⟩), frv (o.getD ⟨0, 0, 0⟩), .bool o.isSome] w fun e w' => e = .returned (frv (o.getD ⟨0, 0, 0⟩)) ∧ SumIs w' bs (bad || o.isNone) ∧ BelX w.heap.size bs w w' := by
  cases o with
  | none => exact (keep_f _ bs bad w hs).mono fun e w' ⟨h1, h2, h3⟩ => ⟨h1, h2.sub (by simp), h3⟩
  | some a => exact (keep_t a bs bad w hs).mono fun e w' ⟨h1, h2, h3⟩ => ⟨h1, h2.sub (by simp), h3⟩
theorem x_keep (o : Option Fr) (bs : Nat) (w : World) (hs : SumEx w bs) :
    Calls Tryd.prog 69 #[.pointer (some ⟨bs, 0, none⟩), frv (o.getD ⟨0, 0, 0⟩), .bool o.isSome] w fun e w' => e = .returned (frv (o.getD ⟨0, 0, 0⟩)) ∧ (∀ c, SumIs w bs c → SumIs w' bs (c || o.isNone)) ∧ BelX w.heap.size bs w w' := by
  obtain ⟨b0, hb⟩ := hs
  exact (keep_any o bs b0 w hb).mono fun e w' ⟨h1, h2, h3⟩ => ⟨h1, fun c hc => by rw [← hb.uniq hc]; exact h2, h3⟩
set_option maxHeartbeats 400000 in
theorem s_add (a b : Fr) (bs : Nat) (bad : Bool) (w : World) (hs : SumIs w bs bad) :
    Calls Tryd.prog 45 #[.pointer (some ⟨bs, 0, none⟩), frv a, frv b] w fun e w' => e = .returned (frv ((addI a b).getD ⟨0, 0, 0⟩)) ∧ SumIs w' bs (bad || (addI a b).isNone) ∧ BelX w.heap.size bs w w' := by
  have hlt := hs.lt
  have hne : w.heap.size ≠ bs ∧ w.heap.size + 1 ≠ bs ∧ w.heap.size + 1 + 1 ≠ bs := ⟨by omega, by omega, by omega⟩
  go_enter Tryd.func45, Tryd.ntmps45
  go_wp2_with (first | (go_at_call 70; (with_reducible refine (add_any a b _).mono ?_); rintro e w1 ⟨rfl, hb⟩; obtain ⟨hc, hf⟩ := bf hb (w.heap.size + 1 + 1 + 1) side_; have hs := hb.size; (try simp only [World.size_alloc, World.size_setCell, World.size_drew, World.heap_drewN] at hs); have hl : w.heap.size ≤ w1.heap.size ∧ w.heap.size < w1.heap.size ∧ w.heap.size + 1 < w1.heap.size ∧ w.heap.size + 1 + 1 < w1.heap.size := ⟨by omega, by omega, by omega, by omega⟩; have hB : Below w.heap.size w w1 := bstep (by exact below_) hb side_; have hs1 : SumIs w1 (bs) _ := SumIs.below (by exact sum_) hb side_; have hcs1 := hs1.cell; have hfs1 := hs1.frozen; clear hs hb) | (go_at_call 69; (with_reducible refine (x_keep (addI a b) bs _ (by exact sum_)).mono ?_); rintro e w1 ⟨rfl, hu, hx⟩; have hs1 := hu _ (by exact sum_); clear hu; obtain ⟨hc, hf⟩ := bfxO hx (w.heap.size) (w.heap.size + 1 + 1 + 1) side_ side_; have hs2 := hx.size; (try simp only [World.size_alloc, World.size_setCell, World.size_drew, World.heap_drewN] at hs2); have hl : w.heap.size ≤ w1.heap.size ∧ w.heap.size < w1.heap.size ∧ w.heap.size + 1 < w1.heap.size ∧ w.heap.size + 1 + 1 < w1.heap.size := ⟨by omega, by omega, by omega, by omega⟩; have hcs1 := hs1.cell; have hfs1 := hs1.frozen; have hX : BelX w.heap.size bs w w1 := BelX.step (by exact belx_) hx side_; clear hs2 hx))
  exact bodyPost_ret (v := frv ((addI a b).getD ⟨0, 0, 0⟩)) (by simp [results, Tryd.results45, go_sem, *]) rfl ⟨rfl, by exact sum_, by exact belx_⟩

theorem x_add (a b : Fr) (bs : Nat) (w : World) (hs : SumEx w bs) :
    Calls Tryd.prog 45 #[.pointer (some ⟨bs, 0, none⟩), frv a, frv b] w fun e w' => e = .returned (frv ((addI a b).getD ⟨0, 0, 0⟩)) ∧ (∀ c, SumIs w bs c → SumIs w' bs (c || (addI a b).isNone)) ∧ BelX w.heap.size bs w w' := by
  obtain ⟨b0, hb⟩ := hs
  exact (s_add a b bs b0 w hb).mono fun e w' ⟨h1, h2, h3⟩ => ⟨h1, fun c hc => by rw [← hb.uniq hc]; exact h2, h3⟩
set_option maxHeartbeats 400000 in
theorem s_times (a b : Fr) (bs : Nat) (bad : Bool) (w : World) (hs : SumIs w bs bad) :
    Calls Tryd.prog 46 #[.pointer (some ⟨bs, 0, none⟩), frv a, frv b] w fun e w' => e = .returned (frv ((timesI a b).getD ⟨0, 0, 0⟩)) ∧ SumIs w' bs (bad || (timesI a b).isNone) ∧ BelX w.heap.size bs w w' := by
  have hlt := hs.lt
  have hne : w.heap.size ≠ bs ∧ w.heap.size + 1 ≠ bs ∧ w.heap.size + 1 + 1 ≠ bs := ⟨by omega, by omega, by omega⟩
  go_enter Tryd.func46, Tryd.ntmps46
  go_wp2_with (first | (go_at_call 18; (with_reducible refine (times_any a b _).mono ?_); rintro e w1 ⟨rfl, hb⟩; obtain ⟨hc, hf⟩ := bf hb (w.heap.size + 1 + 1 + 1) side_; have hs := hb.size; (try simp only [World.size_alloc, World.size_setCell, World.size_drew, World.heap_drewN] at hs); have hl : w.heap.size ≤ w1.heap.size ∧ w.heap.size < w1.heap.size ∧ w.heap.size + 1 < w1.heap.size ∧ w.heap.size + 1 + 1 < w1.heap.size := ⟨by omega, by omega, by omega, by omega⟩; have hB : Below w.heap.size w w1 := bstep (by exact below_) hb side_; have hs1 : SumIs w1 (bs) _ := SumIs.below (by exact sum_) hb side_; have hcs1 := hs1.cell; have hfs1 := hs1.frozen; clear hs hb) | (go_at_call 69; (with_reducible refine (x_keep (timesI a b) bs _ (by exact sum_)).mono ?_); rintro e w1 ⟨rfl, hu, hx⟩; have hs1 := hu _ (by exact sum_); clear hu; obtain ⟨hc, hf⟩ := bfxO hx (w.heap.size) (w.heap.size + 1 + 1 + 1) side_ side_; have hs2 := hx.size; (try simp only [World.size_alloc, World.size_setCell, World.size_drew, World.heap_drewN] at hs2); have hl : w.heap.size ≤ w1.heap.size ∧ w.heap.size < w1.heap.size ∧ w.heap.size + 1 < w1.heap.size ∧ w.heap.size + 1 + 1 < w1.heap.size := ⟨by omega, by omega, by omega, by omega⟩; have hcs1 := hs1.cell; have hfs1 := hs1.frozen; have hX : BelX w.heap.size bs w w1 := BelX.step (by exact belx_) hx side_; clear hs2 hx))
  exact bodyPost_ret (v := frv ((timesI a b).getD ⟨0, 0, 0⟩)) (by simp [results, Tryd.results46, go_sem, *]) rfl ⟨rfl, by exact sum_, by exact belx_⟩

theorem x_times (a b : Fr) (bs : Nat) (w : World) (hs : SumEx w bs) :
    Calls Tryd.prog 46 #[.pointer (some ⟨bs, 0, none⟩), frv a, frv b] w fun e w' => e = .returned (frv ((timesI a b).getD ⟨0, 0, 0⟩)) ∧ (∀ c, SumIs w bs c → SumIs w' bs (c || (timesI a b).isNone)) ∧ BelX w.heap.size bs w w' := by
  obtain ⟨b0, hb⟩ := hs
  exact (s_times a b bs b0 w hb).mono fun e w' ⟨h1, h2, h3⟩ => ⟨h1, fun c hc => by rw [← hb.uniq hc]; exact h2, h3⟩
set_option maxHeartbeats 400000 in
theorem s_mirror (a : Fr) (bs : Nat) (bad : Bool) (w : World) (hs : SumIs w bs bad) :
    Calls Tryd.prog 83 #[.pointer (some ⟨bs, 0, none⟩), frv a] w fun e w' => e = .returned (frv ((mirrorI a).getD ⟨0, 0, 0⟩)) ∧ SumIs w' bs (bad || (mirrorI a).isNone) ∧ BelX w.heap.size bs w w' := by
  have hlt := hs.lt
  have hne : w.heap.size ≠ bs ∧ w.heap.size + 1 ≠ bs ∧ w.heap.size + 1 + 1 ≠ bs := ⟨by omega, by omega, by omega⟩
  go_enter Tryd.func83, Tryd.ntmps83
  go_wp2_with (first | (go_at_call 88; (with_reducible refine (mirror_any a _).mono ?_); rintro e w1 ⟨rfl, hb⟩; obtain ⟨hc, hf⟩ := bf hb (w.heap.size + 1 + 1) side_; have hs := hb.size; (try simp only [World.size_alloc, World.size_setCell, World.size_drew, World.heap_drewN] at hs); have hl : w.heap.size ≤ w1.heap.size ∧ w.heap.size < w1.heap.size ∧ w.heap.size + 1 < w1.heap.size := ⟨by omega, by omega, by omega⟩; have hB : Below w.heap.size w w1 := bstep (by exact below_) hb side_; have hs1 : SumIs w1 (bs) _ := SumIs.below (by exact sum_) hb side_; have hcs1 := hs1.cell; have hfs1 := hs1.frozen; clear hs hb) | (go_at_call 69; (with_reducible refine (x_keep (mirrorI a) bs _ (by exact sum_)).mono ?_); rintro e w1 ⟨rfl, hu, hx⟩; have hs1 := hu _ (by exact sum_); clear hu; obtain ⟨hc, hf⟩ := bfxO hx (w.heap.size) (w.heap.size + 1 + 1) side_ side_; have hs2 := hx.size; (try simp only [World.size_alloc, World.size_setCell, World.size_drew, World.heap_drewN] at hs2); have hl : w.heap.size ≤ w1.heap.size ∧ w.heap.size < w1.heap.size ∧ w.heap.size + 1 < w1.heap.size := ⟨by omega, by omega, by omega⟩; have hcs1 := hs1.cell; have hfs1 := hs1.frozen; have hX : BelX w.heap.size bs w w1 := BelX.step (by exact belx_) hx side_; clear hs2 hx))
  exact bodyPost_ret (v := frv ((mirrorI a).getD ⟨0, 0, 0⟩)) (by simp [results, Tryd.results83, go_sem, *]) rfl ⟨rfl, by exact sum_, by exact belx_⟩

theorem x_mirror (a : Fr) (bs : Nat) (w : World) (hs : SumEx w bs) :
    Calls Tryd.prog 83 #[.pointer (some ⟨bs, 0, none⟩), frv a] w fun e w' => e = .returned (frv ((mirrorI a).getD ⟨0, 0, 0⟩)) ∧ (∀ c, SumIs w bs c → SumIs w' bs (c || (mirrorI a).isNone)) ∧ BelX w.heap.size bs w w' := by
  obtain ⟨b0, hb⟩ := hs
  exact (s_mirror a bs b0 w hb).mono fun e w' ⟨h1, h2, h3⟩ => ⟨h1, fun c hc => by rw [← hb.uniq hc]; exact h2, h3⟩
set_option maxHeartbeats 400000 in
theorem need_any (ok : Bool) (bs : Nat) (bad : Bool) (w : World) (hs : SumIs w bs bad) :
    Calls Tryd.prog 41 #[.pointer (some ⟨bs, 0, none⟩), .bool ok] w fun e w' => e = .returned (.pointer (some ⟨bs, 0, none⟩)) ∧ SumIs w' bs (bad || !ok) ∧ BelX w.heap.size bs w w' := by
  have hlt := hs.lt
  have hcs := hs.cell
  have hfs := hs.frozen
  cases ok
  · go_enter Tryd.func41, Tryd.ntmps41
    go_wp2
    go_ret
    exact ⟨rfl, (hs.set true).sub (by simp), by exact belx_⟩
  · go_enter Tryd.func41, Tryd.ntmps41
    go_wp2
    go_ret
    exact ⟨rfl, hs.sub (by simp), by exact belx_⟩
theorem x_need (ok : Bool) (bs : Nat) (w : World) (hs : SumEx w bs) :
    Calls Tryd.prog 41 #[.pointer (some ⟨bs, 0, none⟩), .bool ok] w fun e w' => e = .returned (.pointer (some ⟨bs, 0, none⟩)) ∧ (∀ c, SumIs w bs c → SumIs w' bs (c || !ok)) ∧ BelX w.heap.size bs w w' := by
  obtain ⟨b0, hb⟩ := hs
  exact (need_any ok bs b0 w hb).mono fun e w' ⟨h1, h2, h3⟩ => ⟨h1, fun c hc => by rw [← hb.uniq hc]; exact h2, h3⟩
def gotF {α : Type} (b : Bool) (z a : α) : α := if b then z else a
end Go.Proofs.YtiagnnmnaakmoaaDoor
