/-
  The walk of the statement that compares RatioWide with the reference's: it returns true, for all vectors.
-/
import Derived.Test.YtddfpbdmppnkiaaQc
import Derived.Test.YtddfpbdmppnkiaaQg
namespace Go.Proofs.Ytddfpbdmppnkiaa
set_option linter.unusedSimpArgs false
set_option linter.unusedVariables false
open Go.RowKit
/-- Wide numbers whose quotient is asked. -/
structure QuoOk (a b c d : Nat) : Prop where
  la : LoW Ieee.double a 32
  lb : LoW Ieee.double b 32
  lc : LoW Ieee.double c 32
  ld : LoW Ieee.double d 32
  lt : c < 2 ^ 64
theorem quo_ok {a : Jn} (h : jvalid a = true) : QuoOk (partW a.x.re a.x.den) (partW a.x.im a.x.den) (partW a.y.re a.y.den) (partW a.y.im a.y.den) := by
  rw [jvalid, Bool.and_eq_true] at h
  obtain ⟨⟨-, h1⟩, -, h2⟩ := partsW h.1
  obtain ⟨⟨e3, h3⟩, -, h4⟩ := partsW h.2
  have hw := Ieee.Format.div_lt Ieee.double e3
  exact ⟨h1, h2, h3, h4, hw⟩
def CxR (E F : Option Nat) (w : World) (e : Ending) (w' : World) : Prop := ∃ x y, e = .returned (.complex .f64 x y) ∧ Rep64 x E ∧ Rep64 y F ∧ Below w.heap.size w w'
def CxT (E F : Option Nat) (v : Bool) (w : World) (e : Ending) (w' : World) : Prop := ∃ x y, e = .returned (.tuple #[.complex .f64 x y, .bool v]) ∧ Rep64 x E ∧ Rep64 y F ∧ Below w.heap.size w w'
/-- What a ratio is. -/
def RatO (a : Jn) (E F : Option Nat) (v : Bool) : Prop := (jvalid a = true → QuoOk (partW a.x.re a.x.den) (partW a.x.im a.x.den) (partW a.y.re a.y.den) (partW a.y.im a.y.den) ∧ E = (qO (partW a.x.re a.x.den) (partW a.x.im a.x.den) (partW a.y.re a.y.den) (partW a.y.im a.y.den)).1 ∧ F = (qO (partW a.x.re a.x.den) (partW a.x.im a.x.den) (partW a.y.re a.y.den) (partW a.y.im a.y.den)).2 ∧ v = true) ∧ (jvalid a = false → E = some 0 ∧ F = some 0 ∧ v = false)
theorem ratO_any (a : Jn) : ∃ E F v, RatO a E F v := by
  cases h : jvalid a
  · exact ⟨some 0, some 0, false, by unfold RatO; exact ⟨fun h1 => (by rw [h] at h1; cases h1), fun _ => ⟨rfl, rfl, rfl⟩⟩⟩
  · exact ⟨(qO (partW a.x.re a.x.den) (partW a.x.im a.x.den) (partW a.y.re a.y.den) (partW a.y.im a.y.den)).1, (qO (partW a.x.re a.x.den) (partW a.x.im a.x.den) (partW a.y.re a.y.den) (partW a.y.im a.y.den)).2, true, by unfold RatO; exact ⟨fun _ => ⟨quo_ok h, rfl, rfl, rfl⟩, fun h1 => (by rw [h] at h1; cases h1)⟩⟩
theorem rep_zero : Rep64 0 (some 0) := .of (by decide +kernel)
set_option maxRecDepth 100000 in
set_option maxHeartbeats 4000000 in
theorem jwide_f (a : Jn) (w : World) (ha : jvalid a = false) :
    Calls Try.prog 21 #[jnv a] w fun e w' => e = .returned (.tuple #[.complex .f64 0 0, .complex .f64 0 0, .bool false]) ∧ Below w.heap.size w w' := by
  go_enter Try.func21, Try.ntmps21
  go_wp2_with (first | (go_at_call 27; (with_reducible refine (jvalid_f a _ ha).mono ?_); rintro e w1 ⟨rfl, hb⟩; obtain ⟨hc, hf⟩ := bf hb (w.heap.size + 1) (by first | omega | (simp; done) | (simp; omega)); have hs := hb.size; (try simp only [World.size_alloc, World.size_setCell, World.size_drew, World.heap_drewN] at hs); have hl : w.heap.size ≤ w1.heap.size ∧ w.heap.size < w1.heap.size := ⟨by omega, by omega⟩; have hB : Below w.heap.size w w1 := bstep (by (repeat' (first | (with_reducible exact Below.refl _ _) | (with_reducible assumption) | (with_reducible refine Below.setCell ?_ (by first | omega | (simp; done) | (simp; omega)) _) | (with_reducible refine Below.alloc ?_ (by first | omega | (simp; done) | (simp; omega)) _) | (with_reducible refine below_drewN ?_ _) | (with_reducible refine Below.drew ?_)))) hb (by first | omega | (simp; done) | (simp; omega)); clear hs hb))
  exact bodyPost_ret (v := .tuple #[.complex .f64 0 0, .complex .f64 0 0, .bool false]) (by simp [results, Try.results21, go_sem, *]) rfl ⟨rfl, by (repeat' (first | (with_reducible exact Below.refl _ _) | (with_reducible assumption) | (with_reducible refine Below.setCell ?_ (by first | omega | (simp; done) | (simp; omega)) _) | (with_reducible refine Below.alloc ?_ (by first | omega | (simp; done) | (simp; omega)) _) | (with_reducible refine below_drewN ?_ _) | (with_reducible refine Below.drew ?_)))⟩
set_option maxRecDepth 100000 in
set_option maxHeartbeats 4000000 in
theorem jwide_t (a : Jn) (w : World) (ha : jvalid a = true) (hx0 : fvalid a.x = true) (hy0 : fvalid a.y = true) :
    Calls Try.prog 21 #[jnv a] w fun e w' => e = .returned (.tuple #[.complex .f64 (partW a.x.re a.x.den) (partW a.x.im a.x.den), .complex .f64 (partW a.y.re a.y.den) (partW a.y.im a.y.den), .bool true]) ∧ Below w.heap.size w w' := by
  go_enter Try.func21, Try.ntmps21
  go_wp2_with (first | (go_at_call 27; (with_reducible refine (jvalid_t a _ ha).mono ?_); rintro e w1 ⟨rfl, hb⟩; obtain ⟨hc, hf⟩ := bf hb (w.heap.size + 1) (by first | omega | (simp; done) | (simp; omega)); have hs := hb.size; (try simp only [World.size_alloc, World.size_setCell, World.size_drew, World.heap_drewN] at hs); have hl : w.heap.size ≤ w1.heap.size ∧ w.heap.size < w1.heap.size := ⟨by omega, by omega⟩; have hB : Below w.heap.size w w1 := bstep (by (repeat' (first | (with_reducible exact Below.refl _ _) | (with_reducible assumption) | (with_reducible refine Below.setCell ?_ (by first | omega | (simp; done) | (simp; omega)) _) | (with_reducible refine Below.alloc ?_ (by first | omega | (simp; done) | (simp; omega)) _) | (with_reducible refine below_drewN ?_ _) | (with_reducible refine Below.drew ?_)))) hb (by first | omega | (simp; done) | (simp; omega)); clear hs hb) | (go_at_call 26; (with_reducible refine (wide_t a.x _ hx0).mono ?_); rintro e w1 ⟨rfl, hb⟩; obtain ⟨hc, hf⟩ := bf hb (w.heap.size + 1) (by first | omega | (simp; done) | (simp; omega)); have hs := hb.size; (try simp only [World.size_alloc, World.size_setCell, World.size_drew, World.heap_drewN] at hs); have hl : w.heap.size ≤ w1.heap.size ∧ w.heap.size < w1.heap.size := ⟨by omega, by omega⟩; have hB : Below w.heap.size w w1 := bstep (by (repeat' (first | (with_reducible exact Below.refl _ _) | (with_reducible assumption) | (with_reducible refine Below.setCell ?_ (by first | omega | (simp; done) | (simp; omega)) _) | (with_reducible refine Below.alloc ?_ (by first | omega | (simp; done) | (simp; omega)) _) | (with_reducible refine below_drewN ?_ _) | (with_reducible refine Below.drew ?_)))) hb (by first | omega | (simp; done) | (simp; omega)); clear hs hb) | (go_at_call 26; (with_reducible refine (wide_t a.y _ hy0).mono ?_); rintro e w1 ⟨rfl, hb⟩; obtain ⟨hc, hf⟩ := bf hb (w.heap.size + 1) (by first | omega | (simp; done) | (simp; omega)); have hs := hb.size; (try simp only [World.size_alloc, World.size_setCell, World.size_drew, World.heap_drewN] at hs); have hl : w.heap.size ≤ w1.heap.size ∧ w.heap.size < w1.heap.size := ⟨by omega, by omega⟩; have hB : Below w.heap.size w w1 := bstep (by (repeat' (first | (with_reducible exact Below.refl _ _) | (with_reducible assumption) | (with_reducible refine Below.setCell ?_ (by first | omega | (simp; done) | (simp; omega)) _) | (with_reducible refine Below.alloc ?_ (by first | omega | (simp; done) | (simp; omega)) _) | (with_reducible refine below_drewN ?_ _) | (with_reducible refine Below.drew ?_)))) hb (by first | omega | (simp; done) | (simp; omega)); clear hs hb))
  exact bodyPost_ret (v := .tuple #[.complex .f64 (partW a.x.re a.x.den) (partW a.x.im a.x.den), .complex .f64 (partW a.y.re a.y.den) (partW a.y.im a.y.den), .bool true]) (by simp [results, Try.results21, go_sem, *]) rfl ⟨rfl, by (repeat' (first | (with_reducible exact Below.refl _ _) | (with_reducible assumption) | (with_reducible refine Below.setCell ?_ (by first | omega | (simp; done) | (simp; omega)) _) | (with_reducible refine Below.alloc ?_ (by first | omega | (simp; done) | (simp; omega)) _) | (with_reducible refine below_drewN ?_ _) | (with_reducible refine Below.drew ?_)))⟩
set_option maxRecDepth 100000 in
set_option maxHeartbeats 4000000 in
theorem sjwide_ff (a : Jn) (w : World) (hx0 : fvalid a.x = false) (hy0 : fvalid a.y = false) :
    Calls Try.prog 19 #[jnv a] w fun e w' => e = .returned (.tuple #[.complex .f64 0 0, .complex .f64 0 0, .bool false]) ∧ Below w.heap.size w w' := by
  go_enter Try.func19, Try.ntmps19
  go_wp2_with (first | (go_at_call 25; (with_reducible refine (swide_f a.x _ hx0).mono ?_); rintro e w1 ⟨rfl, hb⟩; obtain ⟨hc, hf⟩ := bf hb (w.heap.size + 1) (by first | omega | (simp; done) | (simp; omega)); have hs := hb.size; (try simp only [World.size_alloc, World.size_setCell, World.size_drew, World.heap_drewN] at hs); have hl : w.heap.size ≤ w1.heap.size ∧ w.heap.size < w1.heap.size := ⟨by omega, by omega⟩; have hB : Below w.heap.size w w1 := bstep (by (repeat' (first | (with_reducible exact Below.refl _ _) | (with_reducible assumption) | (with_reducible refine Below.setCell ?_ (by first | omega | (simp; done) | (simp; omega)) _) | (with_reducible refine Below.alloc ?_ (by first | omega | (simp; done) | (simp; omega)) _) | (with_reducible refine below_drewN ?_ _) | (with_reducible refine Below.drew ?_)))) hb (by first | omega | (simp; done) | (simp; omega)); clear hs hb) | (go_at_call 25; (with_reducible refine (swide_f a.y _ hy0).mono ?_); rintro e w1 ⟨rfl, hb⟩; obtain ⟨hc, hf⟩ := bf hb (w.heap.size + 1) (by first | omega | (simp; done) | (simp; omega)); have hs := hb.size; (try simp only [World.size_alloc, World.size_setCell, World.size_drew, World.heap_drewN] at hs); have hl : w.heap.size ≤ w1.heap.size ∧ w.heap.size < w1.heap.size := ⟨by omega, by omega⟩; have hB : Below w.heap.size w w1 := bstep (by (repeat' (first | (with_reducible exact Below.refl _ _) | (with_reducible assumption) | (with_reducible refine Below.setCell ?_ (by first | omega | (simp; done) | (simp; omega)) _) | (with_reducible refine Below.alloc ?_ (by first | omega | (simp; done) | (simp; omega)) _) | (with_reducible refine below_drewN ?_ _) | (with_reducible refine Below.drew ?_)))) hb (by first | omega | (simp; done) | (simp; omega)); clear hs hb))
  exact bodyPost_ret (v := .tuple #[.complex .f64 0 0, .complex .f64 0 0, .bool false]) (by simp [results, Try.results19, go_sem, *]) rfl ⟨rfl, by (repeat' (first | (with_reducible exact Below.refl _ _) | (with_reducible assumption) | (with_reducible refine Below.setCell ?_ (by first | omega | (simp; done) | (simp; omega)) _) | (with_reducible refine Below.alloc ?_ (by first | omega | (simp; done) | (simp; omega)) _) | (with_reducible refine below_drewN ?_ _) | (with_reducible refine Below.drew ?_)))⟩
set_option maxRecDepth 100000 in
set_option maxHeartbeats 4000000 in
theorem sjwide_ft (a : Jn) (w : World) (hx0 : fvalid a.x = false) (hy0 : fvalid a.y = true) :
    Calls Try.prog 19 #[jnv a] w fun e w' => e = .returned (.tuple #[.complex .f64 0 0, .complex .f64 0 0, .bool false]) ∧ Below w.heap.size w w' := by
  go_enter Try.func19, Try.ntmps19
  go_wp2_with (first | (go_at_call 25; (with_reducible refine (swide_f a.x _ hx0).mono ?_); rintro e w1 ⟨rfl, hb⟩; obtain ⟨hc, hf⟩ := bf hb (w.heap.size + 1) (by first | omega | (simp; done) | (simp; omega)); have hs := hb.size; (try simp only [World.size_alloc, World.size_setCell, World.size_drew, World.heap_drewN] at hs); have hl : w.heap.size ≤ w1.heap.size ∧ w.heap.size < w1.heap.size := ⟨by omega, by omega⟩; have hB : Below w.heap.size w w1 := bstep (by (repeat' (first | (with_reducible exact Below.refl _ _) | (with_reducible assumption) | (with_reducible refine Below.setCell ?_ (by first | omega | (simp; done) | (simp; omega)) _) | (with_reducible refine Below.alloc ?_ (by first | omega | (simp; done) | (simp; omega)) _) | (with_reducible refine below_drewN ?_ _) | (with_reducible refine Below.drew ?_)))) hb (by first | omega | (simp; done) | (simp; omega)); clear hs hb) | (go_at_call 25; (with_reducible refine (swide_t a.y _ hy0).mono ?_); rintro e w1 ⟨rfl, hb⟩; obtain ⟨hc, hf⟩ := bf hb (w.heap.size + 1) (by first | omega | (simp; done) | (simp; omega)); have hs := hb.size; (try simp only [World.size_alloc, World.size_setCell, World.size_drew, World.heap_drewN] at hs); have hl : w.heap.size ≤ w1.heap.size ∧ w.heap.size < w1.heap.size := ⟨by omega, by omega⟩; have hB : Below w.heap.size w w1 := bstep (by (repeat' (first | (with_reducible exact Below.refl _ _) | (with_reducible assumption) | (with_reducible refine Below.setCell ?_ (by first | omega | (simp; done) | (simp; omega)) _) | (with_reducible refine Below.alloc ?_ (by first | omega | (simp; done) | (simp; omega)) _) | (with_reducible refine below_drewN ?_ _) | (with_reducible refine Below.drew ?_)))) hb (by first | omega | (simp; done) | (simp; omega)); clear hs hb))
  exact bodyPost_ret (v := .tuple #[.complex .f64 0 0, .complex .f64 0 0, .bool false]) (by simp [results, Try.results19, go_sem, *]) rfl ⟨rfl, by (repeat' (first | (with_reducible exact Below.refl _ _) | (with_reducible assumption) | (with_reducible refine Below.setCell ?_ (by first | omega | (simp; done) | (simp; omega)) _) | (with_reducible refine Below.alloc ?_ (by first | omega | (simp; done) | (simp; omega)) _) | (with_reducible refine below_drewN ?_ _) | (with_reducible refine Below.drew ?_)))⟩
set_option maxRecDepth 100000 in
set_option maxHeartbeats 4000000 in
theorem sjwide_tf (a : Jn) (w : World) (hx0 : fvalid a.x = true) (hy0 : fvalid a.y = false) :
    Calls Try.prog 19 #[jnv a] w fun e w' => e = .returned (.tuple #[.complex .f64 0 0, .complex .f64 0 0, .bool false]) ∧ Below w.heap.size w w' := by
  go_enter Try.func19, Try.ntmps19
  go_wp2_with (first | (go_at_call 25; (with_reducible refine (swide_t a.x _ hx0).mono ?_); rintro e w1 ⟨rfl, hb⟩; obtain ⟨hc, hf⟩ := bf hb (w.heap.size + 1) (by first | omega | (simp; done) | (simp; omega)); have hs := hb.size; (try simp only [World.size_alloc, World.size_setCell, World.size_drew, World.heap_drewN] at hs); have hl : w.heap.size ≤ w1.heap.size ∧ w.heap.size < w1.heap.size := ⟨by omega, by omega⟩; have hB : Below w.heap.size w w1 := bstep (by (repeat' (first | (with_reducible exact Below.refl _ _) | (with_reducible assumption) | (with_reducible refine Below.setCell ?_ (by first | omega | (simp; done) | (simp; omega)) _) | (with_reducible refine Below.alloc ?_ (by first | omega | (simp; done) | (simp; omega)) _) | (with_reducible refine below_drewN ?_ _) | (with_reducible refine Below.drew ?_)))) hb (by first | omega | (simp; done) | (simp; omega)); clear hs hb) | (go_at_call 25; (with_reducible refine (swide_f a.y _ hy0).mono ?_); rintro e w1 ⟨rfl, hb⟩; obtain ⟨hc, hf⟩ := bf hb (w.heap.size + 1) (by first | omega | (simp; done) | (simp; omega)); have hs := hb.size; (try simp only [World.size_alloc, World.size_setCell, World.size_drew, World.heap_drewN] at hs); have hl : w.heap.size ≤ w1.heap.size ∧ w.heap.size < w1.heap.size := ⟨by omega, by omega⟩; have hB : Below w.heap.size w w1 := bstep (by (repeat' (first | (with_reducible exact Below.refl _ _) | (with_reducible assumption) | (with_reducible refine Below.setCell ?_ (by first | omega | (simp; done) | (simp; omega)) _) | (with_reducible refine Below.alloc ?_ (by first | omega | (simp; done) | (simp; omega)) _) | (with_reducible refine below_drewN ?_ _) | (with_reducible refine Below.drew ?_)))) hb (by first | omega | (simp; done) | (simp; omega)); clear hs hb))
  exact bodyPost_ret (v := .tuple #[.complex .f64 0 0, .complex .f64 0 0, .bool false]) (by simp [results, Try.results19, go_sem, *]) rfl ⟨rfl, by (repeat' (first | (with_reducible exact Below.refl _ _) | (with_reducible assumption) | (with_reducible refine Below.setCell ?_ (by first | omega | (simp; done) | (simp; omega)) _) | (with_reducible refine Below.alloc ?_ (by first | omega | (simp; done) | (simp; omega)) _) | (with_reducible refine below_drewN ?_ _) | (with_reducible refine Below.drew ?_)))⟩
theorem sjwide_f (a : Jn) (w : World) (ha : jvalid a = false) :
    Calls Try.prog 19 #[jnv a] w fun e w' => e = .returned (.tuple #[.complex .f64 0 0, .complex .f64 0 0, .bool false]) ∧ Below w.heap.size w w' := by
  cases hx : fvalid a.x <;> cases hy : fvalid a.y
  · exact sjwide_ff a w hx hy
  · exact sjwide_ft a w hx hy
  · exact sjwide_tf a w hx hy
  · simp [jvalid, hx, hy] at ha
set_option maxRecDepth 100000 in
set_option maxHeartbeats 4000000 in
theorem sjwide_t (a : Jn) (w : World) (ha : jvalid a = true) (hx0 : fvalid a.x = true) (hy0 : fvalid a.y = true) :
    Calls Try.prog 19 #[jnv a] w fun e w' => e = .returned (.tuple #[.complex .f64 (partW a.x.re a.x.den) (partW a.x.im a.x.den), .complex .f64 (partW a.y.re a.y.den) (partW a.y.im a.y.den), .bool true]) ∧ Below w.heap.size w w' := by
  go_enter Try.func19, Try.ntmps19
  go_wp2_with (first | (go_at_call 25; (with_reducible refine (swide_t a.x _ hx0).mono ?_); rintro e w1 ⟨rfl, hb⟩; obtain ⟨hc, hf⟩ := bf hb (w.heap.size + 1) (by first | omega | (simp; done) | (simp; omega)); have hs := hb.size; (try simp only [World.size_alloc, World.size_setCell, World.size_drew, World.heap_drewN] at hs); have hl : w.heap.size ≤ w1.heap.size ∧ w.heap.size < w1.heap.size := ⟨by omega, by omega⟩; have hB : Below w.heap.size w w1 := bstep (by (repeat' (first | (with_reducible exact Below.refl _ _) | (with_reducible assumption) | (with_reducible refine Below.setCell ?_ (by first | omega | (simp; done) | (simp; omega)) _) | (with_reducible refine Below.alloc ?_ (by first | omega | (simp; done) | (simp; omega)) _) | (with_reducible refine below_drewN ?_ _) | (with_reducible refine Below.drew ?_)))) hb (by first | omega | (simp; done) | (simp; omega)); clear hs hb) | (go_at_call 25; (with_reducible refine (swide_t a.y _ hy0).mono ?_); rintro e w1 ⟨rfl, hb⟩; obtain ⟨hc, hf⟩ := bf hb (w.heap.size + 1) (by first | omega | (simp; done) | (simp; omega)); have hs := hb.size; (try simp only [World.size_alloc, World.size_setCell, World.size_drew, World.heap_drewN] at hs); have hl : w.heap.size ≤ w1.heap.size ∧ w.heap.size < w1.heap.size := ⟨by omega, by omega⟩; have hB : Below w.heap.size w w1 := bstep (by (repeat' (first | (with_reducible exact Below.refl _ _) | (with_reducible assumption) | (with_reducible refine Below.setCell ?_ (by first | omega | (simp; done) | (simp; omega)) _) | (with_reducible refine Below.alloc ?_ (by first | omega | (simp; done) | (simp; omega)) _) | (with_reducible refine below_drewN ?_ _) | (with_reducible refine Below.drew ?_)))) hb (by first | omega | (simp; done) | (simp; omega)); clear hs hb))
  exact bodyPost_ret (v := .tuple #[.complex .f64 (partW a.x.re a.x.den) (partW a.x.im a.x.den), .complex .f64 (partW a.y.re a.y.den) (partW a.y.im a.y.den), .bool true]) (by simp [results, Try.results19, go_sem, *]) rfl ⟨rfl, by (repeat' (first | (with_reducible exact Below.refl _ _) | (with_reducible assumption) | (with_reducible refine Below.setCell ?_ (by first | omega | (simp; done) | (simp; omega)) _) | (with_reducible refine Below.alloc ?_ (by first | omega | (simp; done) | (simp; omega)) _) | (with_reducible refine below_drewN ?_ _) | (with_reducible refine Below.drew ?_)))⟩
set_option maxRecDepth 100000 in
set_option maxHeartbeats 4000000 in
theorem wover (a b c d : Nat) (w : World) (h : QuoOk a b c d) :
    Calls Try.prog 22 #[.complex .f64 a b, .complex .f64 c d] w (CxR (qO a b c d).1 (qO a b c d).2 w) := by
  obtain ⟨x, y, n, hq, hx, hy⟩ := q_rep (P := Try.prog) w h.la h.lb h.lc h.ld h.lt
  have hop : ∀ t, (binOp .quo t (.complex .f64 a b) (.complex .f64 c d)).run Try.prog w = .ok (.complex .f64 x y) (w.drewN n) := fun t => by simp [binOp, Op.complexOp, Op.Complex.conv, hq]
  have HX := Lib.hid hx
  have HY := Lib.hid hy
  clear hq hx hy
  go_enter Try.func22, Try.ntmps22
  go_wp2_with (simp only [hop])
  go_ret
  exact ⟨x, y, rfl, HX.out, HY.out, by (repeat' (first | (with_reducible exact Below.refl _ _) | (with_reducible assumption) | (with_reducible refine Below.setCell ?_ (by first | omega | (simp; done) | (simp; omega)) _) | (with_reducible refine Below.alloc ?_ (by first | omega | (simp; done) | (simp; omega)) _) | (with_reducible refine below_drewN ?_ _) | (with_reducible refine Below.drew ?_)))⟩
set_option maxRecDepth 100000 in
set_option maxHeartbeats 4000000 in
theorem swover (a b c d : Nat) (w : World) (h : QuoOk a b c d) :
    Calls Try.prog 20 #[.complex .f64 a b, .complex .f64 c d] w (CxR (qO a b c d).1 (qO a b c d).2 w) := by
  obtain ⟨x, y, n, hq, hx, hy⟩ := q_rep (P := Try.prog) w h.la h.lb h.lc h.ld h.lt
  have hop : ∀ t, (binOp .quo t (.complex .f64 a b) (.complex .f64 c d)).run Try.prog w = .ok (.complex .f64 x y) (w.drewN n) := fun t => by simp [binOp, Op.complexOp, Op.Complex.conv, hq]
  have HX := Lib.hid hx
  have HY := Lib.hid hy
  clear hq hx hy
  go_enter Try.func20, Try.ntmps20
  go_wp2_with (simp only [hop])
  go_ret
  exact ⟨x, y, rfl, HX.out, HY.out, by (repeat' (first | (with_reducible exact Below.refl _ _) | (with_reducible assumption) | (with_reducible refine Below.setCell ?_ (by first | omega | (simp; done) | (simp; omega)) _) | (with_reducible refine Below.alloc ?_ (by first | omega | (simp; done) | (simp; omega)) _) | (with_reducible refine below_drewN ?_ _) | (with_reducible refine Below.drew ?_)))⟩
set_option maxRecDepth 100000 in
set_option maxHeartbeats 4000000 in
theorem rwide (a : Jn) (E F : Option Nat) (v : Bool) (w : World) (h : Hid (RatO a E F v)) :
    Calls Try.prog 12 #[jnv a] w (CxT E F v w) := by
  cases hv : jvalid a
  · obtain ⟨rfl, rfl, rfl⟩ := h.out.2 hv
    have h00 := rep_zero
    have H00 := Lib.hid h00
    go_enter Try.func12, Try.ntmps12
    go_wp2_with (first | (go_at_call 21; (with_reducible refine (jwide_f a _ hv).mono ?_); rintro e w1 ⟨rfl, hb⟩; obtain ⟨hc, hf⟩ := bf hb (w.heap.size + 1) (by first | omega | (simp; done) | (simp; omega)); have hs := hb.size; (try simp only [World.size_alloc, World.size_setCell, World.size_drew, World.heap_drewN] at hs); have hl : w.heap.size ≤ w1.heap.size ∧ w.heap.size < w1.heap.size := ⟨by omega, by omega⟩; have hB : Below w.heap.size w w1 := bstep (by (repeat' (first | (with_reducible exact Below.refl _ _) | (with_reducible assumption) | (with_reducible refine Below.setCell ?_ (by first | omega | (simp; done) | (simp; omega)) _) | (with_reducible refine Below.alloc ?_ (by first | omega | (simp; done) | (simp; omega)) _) | (with_reducible refine below_drewN ?_ _) | (with_reducible refine Below.drew ?_)))) hb (by first | omega | (simp; done) | (simp; omega)); clear hs hb))
    exact bodyPost_ret (v := .tuple #[.complex .f64 0 0, .bool false]) (by simp [results, Try.results12, go_sem, *]) rfl ⟨0, 0, rfl, H00.out, H00.out, by (repeat' (first | (with_reducible exact Below.refl _ _) | (with_reducible assumption) | (with_reducible refine Below.setCell ?_ (by first | omega | (simp; done) | (simp; omega)) _) | (with_reducible refine Below.alloc ?_ (by first | omega | (simp; done) | (simp; omega)) _) | (with_reducible refine below_drewN ?_ _) | (with_reducible refine Below.drew ?_)))⟩
  · obtain ⟨hq, rfl, rfl, rfl⟩ := h.out.1 hv
    have HQ := Lib.hid hq
    have hv2 := hv
    rw [jvalid, Bool.and_eq_true] at hv2
    have H1 := Lib.hid hv2.1
    have H2 := Lib.hid hv2.2
    clear hq hv2
    have HE : ∃ E F, E = (qO (partW a.x.re a.x.den) (partW a.x.im a.x.den) (partW a.y.re a.y.den) (partW a.y.im a.y.den)).1 ∧ F = (qO (partW a.x.re a.x.den) (partW a.x.im a.x.den) (partW a.y.re a.y.den) (partW a.y.im a.y.den)).2 := ⟨_, _, rfl, rfl⟩
    obtain ⟨E, F, hE, hF⟩ := HE
    rw [← hE, ← hF]
    have HEE := Lib.hid hE
    have HFF := Lib.hid hF
    clear hE hF
    go_enter Try.func12, Try.ntmps12
    go_wp2_with (first | (go_at_call 21; (with_reducible refine (jwide_t a _ hv H1.out H2.out).mono ?_); rintro e w1 ⟨rfl, hb⟩; obtain ⟨hc, hf⟩ := bf hb (w.heap.size + 1) (by first | omega | (simp; done) | (simp; omega)); have hs := hb.size; (try simp only [World.size_alloc, World.size_setCell, World.size_drew, World.heap_drewN] at hs); have hl : w.heap.size ≤ w1.heap.size ∧ w.heap.size < w1.heap.size := ⟨by omega, by omega⟩; have hB : Below w.heap.size w w1 := bstep (by (repeat' (first | (with_reducible exact Below.refl _ _) | (with_reducible assumption) | (with_reducible refine Below.setCell ?_ (by first | omega | (simp; done) | (simp; omega)) _) | (with_reducible refine Below.alloc ?_ (by first | omega | (simp; done) | (simp; omega)) _) | (with_reducible refine below_drewN ?_ _) | (with_reducible refine Below.drew ?_)))) hb (by first | omega | (simp; done) | (simp; omega)); clear hs hb) | (go_at_call 22; (with_reducible refine (wover _ _ _ _ _ HQ.out).mono ?_); rintro e w9 ⟨x, y, rfl, hx, hy, hb⟩; have hB9 : Below w.heap.size w w9 := bstep (by (repeat' (first | (with_reducible exact Below.refl _ _) | (with_reducible assumption) | (with_reducible refine Below.setCell ?_ (by first | omega | (simp; done) | (simp; omega)) _) | (with_reducible refine Below.alloc ?_ (by first | omega | (simp; done) | (simp; omega)) _) | (with_reducible refine below_drewN ?_ _) | (with_reducible refine Below.drew ?_)))) hb (by first | omega | (simp; done) | (simp; omega)); rw [← HEE.out] at hx; rw [← HFF.out] at hy; have HX := Lib.hid hx; have HY := Lib.hid hy; clear hb hx hy))
    exact bodyPost_ret (v := .tuple #[.complex .f64 x y, .bool true]) (by simp [results, Try.results12, go_sem, *]) rfl ⟨x, y, rfl, HX.out, HY.out, by (repeat' (first | (with_reducible exact Below.refl _ _) | (with_reducible assumption) | (with_reducible refine Below.setCell ?_ (by first | omega | (simp; done) | (simp; omega)) _) | (with_reducible refine Below.alloc ?_ (by first | omega | (simp; done) | (simp; omega)) _) | (with_reducible refine below_drewN ?_ _) | (with_reducible refine Below.drew ?_)))⟩
set_option maxRecDepth 100000 in
set_option maxHeartbeats 4000000 in
theorem srwide (a : Jn) (E F : Option Nat) (v : Bool) (w : World) (h : Hid (RatO a E F v)) :
    Calls Try.prog 10 #[jnv a] w (CxT E F v w) := by
  cases hv : jvalid a
  · obtain ⟨rfl, rfl, rfl⟩ := h.out.2 hv
    have h00 := rep_zero
    have H00 := Lib.hid h00
    go_enter Try.func10, Try.ntmps10
    go_wp2_with (first | (go_at_call 19; (with_reducible refine (sjwide_f a _ hv).mono ?_); rintro e w1 ⟨rfl, hb⟩; obtain ⟨hc, hf⟩ := bf hb (w.heap.size + 1) (by first | omega | (simp; done) | (simp; omega)); have hs := hb.size; (try simp only [World.size_alloc, World.size_setCell, World.size_drew, World.heap_drewN] at hs); have hl : w.heap.size ≤ w1.heap.size ∧ w.heap.size < w1.heap.size := ⟨by omega, by omega⟩; have hB : Below w.heap.size w w1 := bstep (by (repeat' (first | (with_reducible exact Below.refl _ _) | (with_reducible assumption) | (with_reducible refine Below.setCell ?_ (by first | omega | (simp; done) | (simp; omega)) _) | (with_reducible refine Below.alloc ?_ (by first | omega | (simp; done) | (simp; omega)) _) | (with_reducible refine below_drewN ?_ _) | (with_reducible refine Below.drew ?_)))) hb (by first | omega | (simp; done) | (simp; omega)); clear hs hb))
    exact bodyPost_ret (v := .tuple #[.complex .f64 0 0, .bool false]) (by simp [results, Try.results10, go_sem, *]) rfl ⟨0, 0, rfl, H00.out, H00.out, by (repeat' (first | (with_reducible exact Below.refl _ _) | (with_reducible assumption) | (with_reducible refine Below.setCell ?_ (by first | omega | (simp; done) | (simp; omega)) _) | (with_reducible refine Below.alloc ?_ (by first | omega | (simp; done) | (simp; omega)) _) | (with_reducible refine below_drewN ?_ _) | (with_reducible refine Below.drew ?_)))⟩
  · obtain ⟨hq, rfl, rfl, rfl⟩ := h.out.1 hv
    have HQ := Lib.hid hq
    have hv2 := hv
    rw [jvalid, Bool.and_eq_true] at hv2
    have H1 := Lib.hid hv2.1
    have H2 := Lib.hid hv2.2
    clear hq hv2
    have HE : ∃ E F, E = (qO (partW a.x.re a.x.den) (partW a.x.im a.x.den) (partW a.y.re a.y.den) (partW a.y.im a.y.den)).1 ∧ F = (qO (partW a.x.re a.x.den) (partW a.x.im a.x.den) (partW a.y.re a.y.den) (partW a.y.im a.y.den)).2 := ⟨_, _, rfl, rfl⟩
    obtain ⟨E, F, hE, hF⟩ := HE
    rw [← hE, ← hF]
    have HEE := Lib.hid hE
    have HFF := Lib.hid hF
    clear hE hF
    go_enter Try.func10, Try.ntmps10
    go_wp2_with (first | (go_at_call 19; (with_reducible refine (sjwide_t a _ hv H1.out H2.out).mono ?_); rintro e w1 ⟨rfl, hb⟩; obtain ⟨hc, hf⟩ := bf hb (w.heap.size + 1) (by first | omega | (simp; done) | (simp; omega)); have hs := hb.size; (try simp only [World.size_alloc, World.size_setCell, World.size_drew, World.heap_drewN] at hs); have hl : w.heap.size ≤ w1.heap.size ∧ w.heap.size < w1.heap.size := ⟨by omega, by omega⟩; have hB : Below w.heap.size w w1 := bstep (by (repeat' (first | (with_reducible exact Below.refl _ _) | (with_reducible assumption) | (with_reducible refine Below.setCell ?_ (by first | omega | (simp; done) | (simp; omega)) _) | (with_reducible refine Below.alloc ?_ (by first | omega | (simp; done) | (simp; omega)) _) | (with_reducible refine below_drewN ?_ _) | (with_reducible refine Below.drew ?_)))) hb (by first | omega | (simp; done) | (simp; omega)); clear hs hb) | (go_at_call 20; (with_reducible refine (swover _ _ _ _ _ HQ.out).mono ?_); rintro e w9 ⟨x, y, rfl, hx, hy, hb⟩; have hB9 : Below w.heap.size w w9 := bstep (by (repeat' (first | (with_reducible exact Below.refl _ _) | (with_reducible assumption) | (with_reducible refine Below.setCell ?_ (by first | omega | (simp; done) | (simp; omega)) _) | (with_reducible refine Below.alloc ?_ (by first | omega | (simp; done) | (simp; omega)) _) | (with_reducible refine below_drewN ?_ _) | (with_reducible refine Below.drew ?_)))) hb (by first | omega | (simp; done) | (simp; omega)); rw [← HEE.out] at hx; rw [← HFF.out] at hy; have HX := Lib.hid hx; have HY := Lib.hid hy; clear hb hx hy))
    exact bodyPost_ret (v := .tuple #[.complex .f64 x y, .bool true]) (by simp [results, Try.results10, go_sem, *]) rfl ⟨x, y, rfl, HX.out, HY.out, by (repeat' (first | (with_reducible exact Below.refl _ _) | (with_reducible assumption) | (with_reducible refine Below.setCell ?_ (by first | omega | (simp; done) | (simp; omega)) _) | (with_reducible refine Below.alloc ?_ (by first | omega | (simp; done) | (simp; omega)) _) | (with_reducible refine below_drewN ?_ _) | (with_reducible refine Below.drew ?_)))⟩
theorem order_nan {x : Nat} (h : (Ieee.double.read x).isNaN = true) : FloatKind.f64.format.order x x = none := by
  show Ieee.double.order x x = none
  unfold Ieee.Format.order
  cases hx : Ieee.double.read x with
  | nan s t => rfl
  | number s m p => rw [hx] at h; cases h
  | infinity s => rw [hx] at h; cases h
set_option maxHeartbeats 1000000 in
theorem same_nan (x y : Nat) (w : World) (hx : FloatKind.f64.format.order x x = none) (hy : FloatKind.f64.format.order y y = none) :
    Calls Try.prog 9 #[.float .f64 x, .float .f64 y] w fun e w' => e = .returned (.bool true) ∧ Below w.heap.size w w' := by
  have hn : ((none : Option Ordering) != some Ordering.eq) = true := by decide
  go_enter Try.func9, Try.ntmps9
  go_wp2
  go_ret
  exact ⟨rfl, by (repeat' (first | (with_reducible exact Below.refl _ _) | (with_reducible assumption) | (with_reducible refine Below.setCell ?_ (by first | omega | (simp; done) | (simp; omega)) _) | (with_reducible refine Below.alloc ?_ (by first | omega | (simp; done) | (simp; omega)) _) | (with_reducible refine below_drewN ?_ _) | (with_reducible refine Below.drew ?_)))⟩
theorem same_r (x y : Nat) (X : Option Nat) (w : World) (hx : Rep64 x X) (hy : Rep64 y X) :
    Calls Try.prog 9 #[.float .f64 x, .float .f64 y] w fun e w' => e = .returned (.bool true) ∧ Below w.heap.size w w' := by
  rcases hx with ⟨z, rfl, rfl, hz⟩ | ⟨rfl, hx⟩
  · rcases hy with ⟨z', e, rfl, -⟩ | ⟨e, -⟩
    · obtain rfl := Option.some.inj e
      exact same_t x w hz (quo_nn hz)
    · cases e
  · rcases hy with ⟨z', e, -, -⟩ | ⟨-, hy⟩
    · cases e
    · exact same_nan x y w (order_nan hx) (order_nan hy)
set_option maxRecDepth 100000 in
set_option maxHeartbeats 4000000 in
theorem sameComplex_r (x y x' y' : Nat) (E F : Option Nat) (w : World) (hx : Hid (Rep64 x E)) (hy : Hid (Rep64 y F)) (hx' : Hid (Rep64 x' E)) (hy' : Hid (Rep64 y' F)) :
    Calls Try.prog 13 #[.complex .f64 x y, .complex .f64 x' y'] w fun e w' => e = .returned (.bool true) ∧ Below w.heap.size w w' := by
  go_enter Try.func13, Try.ntmps13
  go_wp2_with (first | (go_at_call 9; (with_reducible refine (same_r x x' E _ hx.out hx'.out).mono ?_); rintro e w1 ⟨rfl, hb⟩; obtain ⟨hc, hf⟩ := bf hb (w.heap.size) (by first | omega | (simp; done) | (simp; omega)); have hs := hb.size; (try simp only [World.size_alloc, World.size_setCell, World.size_drew, World.heap_drewN] at hs); have hl : w.heap.size ≤ w1.heap.size := (by omega); have hB : Below w.heap.size w w1 := bstep (by (repeat' (first | (with_reducible exact Below.refl _ _) | (with_reducible assumption) | (with_reducible refine Below.setCell ?_ (by first | omega | (simp; done) | (simp; omega)) _) | (with_reducible refine Below.alloc ?_ (by first | omega | (simp; done) | (simp; omega)) _) | (with_reducible refine below_drewN ?_ _) | (with_reducible refine Below.drew ?_)))) hb (by first | omega | (simp; done) | (simp; omega)); clear hs hb) | (go_at_call 9; (with_reducible refine (same_r y y' F _ hy.out hy'.out).mono ?_); rintro e w1 ⟨rfl, hb⟩; obtain ⟨hc, hf⟩ := bf hb (w.heap.size) (by first | omega | (simp; done) | (simp; omega)); have hs := hb.size; (try simp only [World.size_alloc, World.size_setCell, World.size_drew, World.heap_drewN] at hs); have hl : w.heap.size ≤ w1.heap.size := (by omega); have hB : Below w.heap.size w w1 := bstep (by (repeat' (first | (with_reducible exact Below.refl _ _) | (with_reducible assumption) | (with_reducible refine Below.setCell ?_ (by first | omega | (simp; done) | (simp; omega)) _) | (with_reducible refine Below.alloc ?_ (by first | omega | (simp; done) | (simp; omega)) _) | (with_reducible refine below_drewN ?_ _) | (with_reducible refine Below.drew ?_)))) hb (by first | omega | (simp; done) | (simp; omega)); clear hs hb))
  go_ret
  exact ⟨rfl, by (repeat' (first | (with_reducible exact Below.refl _ _) | (with_reducible assumption) | (with_reducible refine Below.setCell ?_ (by first | omega | (simp; done) | (simp; omega)) _) | (with_reducible refine Below.alloc ?_ (by first | omega | (simp; done) | (simp; omega)) _) | (with_reducible refine below_drewN ?_ _) | (with_reducible refine Below.drew ?_)))⟩
set_option maxRecDepth 100000 in
set_option maxHeartbeats 4000000 in
theorem fnExactRatioWide_walk (a : Jn) (w : World) :
    Calls Try.prog 4 #[jnv a] w fun e w' => e = .returned (.bool true) ∧ Below w.heap.size w w' := by
  obtain ⟨E, F, v, hR⟩ := ratO_any a
  have HR := Lib.hid hR
  clear hR
  go_enter Try.func4, Try.ntmps4
  go_wp2_with (first | (go_at_call 11; (with_reducible refine (toJones_any a _).mono ?_); rintro e w1 ⟨rfl, hb⟩; obtain ⟨hc, hf⟩ := bf hb (w.heap.size + 1) (by first | omega | (simp; done) | (simp; omega)); have hs := hb.size; (try simp only [World.size_alloc, World.size_setCell, World.size_drew, World.heap_drewN] at hs); have hl : w.heap.size ≤ w1.heap.size ∧ w.heap.size < w1.heap.size := ⟨by omega, by omega⟩; have hB : Below w.heap.size w w1 := bstep (by (repeat' (first | (with_reducible exact Below.refl _ _) | (with_reducible assumption) | (with_reducible refine Below.setCell ?_ (by first | omega | (simp; done) | (simp; omega)) _) | (with_reducible refine Below.alloc ?_ (by first | omega | (simp; done) | (simp; omega)) _) | (with_reducible refine below_drewN ?_ _) | (with_reducible refine Below.drew ?_)))) hb (by first | omega | (simp; done) | (simp; omega)); clear hs hb) | (go_at_call 10; (with_reducible refine (srwide a E F v _ HR).mono ?_); rintro e w2 ⟨x, y, rfl, hx, hy, hb⟩; refine Hid.out ?_))
  refine Lib.hid ?_
  have HX := Lib.hid hx
  have HY := Lib.hid hy
  obtain ⟨hc2, hf2⟩ := bf hb (w.heap.size + 1) (by omega)
  have hB2 : Below w.heap.size w w2 := bstep hB hb (by omega)
  have hz2 := hb.size
  have hl2 : w.heap.size < w2.heap.size := by omega
  clear hb hx hy hz2
  go_wp2_with (first | (go_at_call 11; (with_reducible refine (toJones_any a _).mono ?_); rintro e w1 ⟨rfl, hb⟩; obtain ⟨hc, hf⟩ := bf hb (w.heap.size + 1) (by first | omega | (simp; done) | (simp; omega)); have hs := hb.size; (try simp only [World.size_alloc, World.size_setCell, World.size_drew, World.heap_drewN] at hs); have hl : w.heap.size ≤ w1.heap.size ∧ w.heap.size < w1.heap.size := ⟨by omega, by omega⟩; have hB : Below w.heap.size w w1 := bstep (by (repeat' (first | (with_reducible exact Below.refl _ _) | (with_reducible assumption) | (with_reducible refine Below.setCell ?_ (by first | omega | (simp; done) | (simp; omega)) _) | (with_reducible refine Below.alloc ?_ (by first | omega | (simp; done) | (simp; omega)) _) | (with_reducible refine below_drewN ?_ _) | (with_reducible refine Below.drew ?_)))) hb (by first | omega | (simp; done) | (simp; omega)); clear hs hb) | (go_at_call 12; (with_reducible refine (rwide a E F v _ HR).mono ?_); rintro e w4 ⟨x', y', rfl, hx, hy, hb⟩; refine Hid.out ?_))
  refine Lib.hid ?_
  have HX' := Lib.hid hx
  have HY' := Lib.hid hy
  have hB4 : Below w.heap.size w w4 := bstep hB hb (by omega)
  clear hb hx hy
  go_wp2_with (go_at_call 13; (with_reducible refine (sameComplex_r x' y' x y E F _ HX' HY' HX HY).mono ?_); rintro e w5 ⟨rfl, hb⟩; have hB5 : Below w.heap.size w w5 := bstep hB4 hb hB4.size; clear hb)
  go_ret
  exact ⟨rfl, by (repeat' (first | (with_reducible exact Below.refl _ _) | (with_reducible assumption) | (with_reducible refine Below.setCell ?_ (by first | omega | (simp; done) | (simp; omega)) _) | (with_reducible refine Below.alloc ?_ (by first | omega | (simp; done) | (simp; omega)) _) | (with_reducible refine below_drewN ?_ _) | (with_reducible refine Below.drew ?_)))⟩
end Go.Proofs.Ytddfpbdmppnkiaa
