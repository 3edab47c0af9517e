/-
  The reckoning that remembers whether something on the way was none: what each of its methods does to it.
-/
import Derived.Test.YtddfpbdmppnkiaaWd
namespace Go.Proofs.Ytddfpbdmppnkiaa
set_option linter.unusedSimpArgs false
set_option linter.unusedVariables false
open Go.RowKit
/-- Below block number B, but for block bs, the world w' is as w was. -/
structure BelX (B bs : Nat) (w w' : World) : Prop where
  os : w'.os = w.os
  tape : w'.tape = w.tape
  output : w'.output = w.output
  size : w.heap.size ≤ w'.heap.size
  block : ∀ k, k < B → k ≠ bs → w'.heap[k]? = w.heap[k]?
theorem BelX.refl (B bs : Nat) (w : World) : BelX B bs w w := ⟨rfl, rfl, rfl, Nat.le_refl _, fun _ _ _ => rfl⟩
theorem BelX.trans {B bs : Nat} {a b c : World} (h : BelX B bs a b) (k : BelX B bs b c) : BelX B bs a c :=
  ⟨k.os.trans h.os, k.tape.trans h.tape, k.output.trans h.output, Nat.le_trans h.size k.size, fun i hi hn => (k.block i hi hn).trans (h.block i hi hn)⟩
theorem BelX.mono {B B' bs : Nat} {w w' : World} (h : BelX B bs w w') (hB : B' ≤ B) : BelX B' bs w w' := ⟨h.os, h.tape, h.output, h.size, fun k hk hn => h.block k (Nat.lt_of_lt_of_le hk hB) hn⟩
theorem BelX.of {B bs : Nat} {w w' : World} (h : Below B w w') : BelX B bs w w' := ⟨h.os, h.tape, h.output, h.size, fun k hk _ => h.block k hk⟩
theorem BelX.below {B bs : Nat} {w w' : World} (h : BelX B bs w w') (hb : B ≤ bs) : Below B w w' := ⟨h.os, h.tape, h.output, h.size, fun k hk => h.block k hk (by omega)⟩
theorem BelX.alloc {B bs : Nat} {a w : World} (h : BelX B bs a w) (hB : B ≤ w.heap.size) (o : Obj) : BelX B bs a (w.alloc o) := h.trans (.of ((Below.refl _ _).alloc hB o))
theorem BelX.drew {B bs : Nat} {a w : World} (h : BelX B bs a w) : BelX B bs a w.drew := h.trans (.of ((Below.refl _ _).drew))
theorem BelX.drewN {B bs : Nat} {a w : World} (h : BelX B bs a w) (n : Nat) : BelX B bs a (w.drewN n) := h.trans (.of (below_drewN (Below.refl _ _) n))
theorem BelX.setCell {B bs : Nat} {a w : World} (h : BelX B bs a w) {p : Addr} (hp : B ≤ p.block) (u : Value) : BelX B bs a (w.setCell p u) := h.trans (.of ((Below.refl _ _).setCell hp u))
theorem BelX.setSum {B bs o : Nat} {a w : World} (h : BelX B bs a w) (u : Value) : BelX B bs a (w.setCell ⟨bs, o, none⟩ u) :=
  h.trans ⟨rfl, rfl, rfl, by simp, fun k _ hn => Below.heap_setCell _ _ _ _ hn⟩
theorem BelX.step {B bs : Nat} {w W w1 : World} (h : BelX B bs w W) (hb : BelX W.heap.size bs W w1) (hB : B ≤ W.heap.size) : BelX B bs w w1 := h.trans (hb.mono hB)
theorem BelX.stepB {B bs : Nat} {w W w1 : World} (h : BelX B bs w W) (hb : Below W.heap.size W w1) (hB : B ≤ W.heap.size) : BelX B bs w w1 := h.trans (.of (hb.mono hB))
theorem bfxL {W w1 : World} {bs : Nat} (hb : BelX W.heap.size bs W w1) (hB : bs ≤ W.heap.size) : (∀ b o, b < bs → w1.cell? ⟨b, o, none⟩ = W.cell? ⟨b, o, none⟩) ∧ (∀ b o, b < bs → w1.frozen? ⟨b, o, none⟩ = W.frozen? ⟨b, o, none⟩) :=
  ⟨fun b o h => World.cell?_of_block (w := W) (hb.block b (Nat.lt_of_lt_of_le h hB) (by omega)), fun b o h => World.frozen?_of_block (w := W) (hb.block b (Nat.lt_of_lt_of_le h hB) (by omega))⟩
theorem bfxU {W w1 : World} {bs : Nat} (hb : BelX W.heap.size bs W w1) (B : Nat) (hB : B ≤ W.heap.size) : (∀ b o, bs < b → b < B → w1.cell? ⟨b, o, none⟩ = W.cell? ⟨b, o, none⟩) ∧ (∀ b o, bs < b → b < B → w1.frozen? ⟨b, o, none⟩ = W.frozen? ⟨b, o, none⟩) :=
  ⟨fun b o hn h => World.cell?_of_block (w := W) (hb.block b (Nat.lt_of_lt_of_le h hB) (by omega)), fun b o hn h => World.frozen?_of_block (w := W) (hb.block b (Nat.lt_of_lt_of_le h hB) (by omega))⟩
theorem bfxO {W w1 : World} {bs : Nat} (hb : BelX W.heap.size bs W w1) (lo B : Nat) (hl : bs < lo) (hB : B ≤ W.heap.size) : (∀ b o, lo < b + 1 → b < B → w1.cell? ⟨b, o, none⟩ = W.cell? ⟨b, o, none⟩) ∧ (∀ b o, lo < b + 1 → b < B → w1.frozen? ⟨b, o, none⟩ = W.frozen? ⟨b, o, none⟩) :=
  ⟨fun b o hn h => World.cell?_of_block (w := W) (hb.block b (Nat.lt_of_lt_of_le h hB) (by omega)), fun b o hn h => World.frozen?_of_block (w := W) (hb.block b (Nat.lt_of_lt_of_le h hB) (by omega))⟩

def gotF {α : Type} (b : Bool) (z a : α) : α := if b then z else a
end Go.Proofs.Ytddfpbdmppnkiaa
