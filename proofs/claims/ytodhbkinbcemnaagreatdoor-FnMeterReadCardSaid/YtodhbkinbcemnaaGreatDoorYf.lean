/-
  The walks of the reference's StokesOf and of the drawer of light.
-/
import Derived.Test.YtodhbkinbcemnaaGreatDoorPn
import Derived.Test.YtodhbkinbcemnaaGreatDoorPw
import Derived.Test.YtodhbkinbcemnaaGreatDoorYb
namespace Go.Proofs.YtodhbkinbcemnaaGreatDoor
set_option linter.unusedSimpArgs false
set_option linter.unusedVariables false
open Go.RowKit
attribute [local go_sem ↓] Go.wp_at_zero Go.wp_at_succ
theorem smake_e (re im den : Int) (w : World) : Calls Tryz.prog 118 #[.int .i64 re, .int .i64 im, .int .i64 den] w fun e w' => ∃ (q : Fr) (ok : Bool), e = .returned (.tuple #[frv q, .bool ok]) ∧ Below w.heap.size w w' :=
  (smake_any re im den w).mono fun e w' h => ⟨vN (makeI re im den), (makeI re im den).isSome, h.1, h.2⟩
theorem spower_e (a : Fr) (w : World) : Calls Tryz.prog 94 #[frv a] w fun e w' => ∃ (q : Fr) (ok : Bool), e = .returned (.tuple #[frv q, .bool ok]) ∧ Below w.heap.size w w' :=
  (spower_any a w).mono fun e w' h => ⟨vN (powerI a), (powerI a).isSome, h.1, h.2⟩
theorem smirror_e (a : Fr) (w : World) : Calls Tryz.prog 95 #[frv a] w fun e w' => ∃ (q : Fr) (ok : Bool), e = .returned (.tuple #[frv q, .bool ok]) ∧ Below w.heap.size w w' :=
  (smirror_any a w).mono fun e w' h => ⟨vN (mirrorI a), (mirrorI a).isSome, h.1, h.2⟩
theorem stimes_e (a b : Fr) (w : World) : Calls Tryz.prog 71 #[frv a, frv b] w fun e w' => ∃ (q : Fr) (ok : Bool), e = .returned (.tuple #[frv q, .bool ok]) ∧ Below w.heap.size w w' :=
  (stimes_any a b w).mono fun e w' h => ⟨vN (timesI a b), (timesI a b).isSome, h.1, h.2⟩
theorem sadd_e (a b : Fr) (w : World) : Calls Tryz.prog 96 #[frv a, frv b] w fun e w' => ∃ (q : Fr) (ok : Bool), e = .returned (.tuple #[frv q, .bool ok]) ∧ Below w.heap.size w w' :=
  (sadd_any a b w).mono fun e w' h => ⟨vN (addI a b), (addI a b).isSome, h.1, h.2⟩
theorem sless_e (a b : Fr) (w : World) : Calls Tryz.prog 97 #[frv a, frv b] w fun e w' => ∃ (q : Fr) (ok : Bool), e = .returned (.tuple #[frv q, .bool ok]) ∧ Below w.heap.size w w' :=
  (sless_any a b w).mono fun e w' h => ⟨vN (lessI a b), (lessI a b).isSome, h.1, h.2⟩
set_option maxRecDepth 100000 in
set_option maxHeartbeats 2000000 in
theorem twice_e (n den : Int) (w : World) : Calls Tryz.prog 98 #[.int .i64 n, .int .i64 den] w fun e w' => ∃ (q : Fr) (ok : Bool), e = .returned (.tuple #[frv q, .bool ok]) ∧ Below w.heap.size w w' := by
  go_enter Tryz.func98, Tryz.ntmps98
  go_wp2_with (first | (go_at_call 118; (with_reducible refine (smake_e _ _ _ _).mono ?_); rintro e w1 ⟨q, ok, rfl, hb⟩; obtain ⟨hc, hf⟩ := bf hb (w.heap.size + 1) (by simp); have hB : Below w.heap.size w w1 := bstep (by exact below_) hb (by simp); have hz := hb.size; simp only [World.size_alloc] at hz; clear hb))
  exact bodyPost_ret (v := .tuple #[frv q, .bool ok]) (by simp [results, Tryz.results98, go_sem, *]) rfl ⟨q, ok, rfl, by exact below_⟩
/-- What the walk keeps: the world below, the blocks made. -/
structure BW (w : World) (bl : List (Nat × Array Value × TypeId)) (W : World) : Prop where
  B : Below w.heap.size w W
  bs : ∀ q ∈ bl, Blk W q.1 q.2.1 q.2.2
theorem BW.push {w W v : World} {bl : List (Nat × Array Value × TypeId)} (h : BW w bl W) (hb : Below W.heap.size W v) (cs : Array Value) (t : TypeId) : BW w ((v.heap.size, cs, t) :: bl) (v.alloc (.cells cs t)) := by
  have hC : Below W.heap.size W (v.alloc (.cells cs t)) := hb.alloc hb.size _
  refine ⟨bstep h.B hC h.B.size, fun q hq => ?_⟩
  rcases List.mem_cons.1 hq with rfl | hq
  · exact heap_alloc_last v _
  · exact (hC.block _ (blk_lt (h.bs q hq))).trans (h.bs q hq)
theorem BW.at {w W : World} {bl : List (Nat × Array Value × TypeId)} (h : BW w bl W) {b : Nat} {cs : Array Value} {t : TypeId} (hm : (b, cs, t) ∈ bl) : Blk W b cs t := h.bs _ hm
theorem arr_of {W : World} {b : Nat} {t : TypeId} (h : Blk W b #[.int .i64 0, .int .i64 0, .int .i64 0, .int .i64 0, .int .i64 0, .int .i64 0, .int .i64 0, .int .i64 0, .int .i64 0, .int .i64 0, .int .i64 0, .int .i64 0] t) : ArrW W b zs4 := by
  have := ArrW.zero (W := { W with heap := W.heap }) t
  refine ⟨?_, blk_free h, blk_lt h⟩
  intro i s hi
  match i, hi with
  | 0, hi => obtain rfl := Option.some.inj hi; exact ⟨by simp [World.cell?, h], by simp [World.cell?, h], by simp [World.cell?, h]⟩
  | 1, hi => obtain rfl := Option.some.inj hi; exact ⟨by simp [World.cell?, h], by simp [World.cell?, h], by simp [World.cell?, h]⟩
  | 2, hi => obtain rfl := Option.some.inj hi; exact ⟨by simp [World.cell?, h], by simp [World.cell?, h], by simp [World.cell?, h]⟩
  | 3, hi => obtain rfl := Option.some.inj hi; exact ⟨by simp [World.cell?, h], by simp [World.cell?, h], by simp [World.cell?, h]⟩
theorem jn_of {W : World} {b : Nat} {t : TypeId} {x y : Fr} (h : Blk W b #[.int .i64 x.re, .int .i64 x.im, .int .i64 x.den, .int .i64 y.re, .int .i64 y.im, .int .i64 y.den] t) : W.cell? ⟨b, 0, none⟩ = some (.int .i64 x.re) ∧ W.cell? ⟨b, 1, none⟩ = some (.int .i64 x.im) ∧ W.cell? ⟨b, 2, none⟩ = some (.int .i64 x.den) ∧ W.cell? ⟨b, 3, none⟩ = some (.int .i64 y.re) ∧ W.cell? ⟨b, 4, none⟩ = some (.int .i64 y.im) ∧ W.cell? ⟨b, 5, none⟩ = some (.int .i64 y.den) :=
  ⟨by simp [World.cell?, h], by simp [World.cell?, h], by simp [World.cell?, h], by simp [World.cell?, h], by simp [World.cell?, h], by simp [World.cell?, h]⟩
set_option maxRecDepth 100000 in
set_option maxHeartbeats 8000000 in
theorem sstokesOf_any (x y : Fr) (w : World) : Calls Tryz.prog 61 #[.agg #[.int .i64 x.re, .int .i64 x.im, .int .i64 x.den, .int .i64 y.re, .int .i64 y.im, .int .i64 y.den]] w fun e w' => ∃ (m : Mt) (ok : Bool), e = .returned (.tuple #[mtv m, .bool ok]) ∧ Below w.heap.size w w' := by
  go_enter Tryz.func61, Tryz.ntmps61
  obtain ⟨W0, hW, hW0⟩ : ∃ W, W = (w.alloc (.cells #[.int .i64 x.re, .int .i64 x.im, .int .i64 x.den, .int .i64 y.re, .int .i64 y.im, .int .i64 y.den] 100)).alloc (.cells #[.int .i64 0, .int .i64 0, .int .i64 0, .int .i64 0, .int .i64 0, .int .i64 0, .int .i64 0, .int .i64 0, .int .i64 0, .int .i64 0, .int .i64 0, .int .i64 0] 28) ∧ BW w [(w.heap.size + 1, #[.int .i64 0, .int .i64 0, .int .i64 0, .int .i64 0, .int .i64 0, .int .i64 0, .int .i64 0, .int .i64 0, .int .i64 0, .int .i64 0, .int .i64 0, .int .i64 0], 28), (w.heap.size, #[.int .i64 x.re, .int .i64 x.im, .int .i64 x.den, .int .i64 y.re, .int .i64 y.im, .int .i64 y.den], 100)] W := by
    refine ⟨_, rfl, by exact below_, ?_⟩
    have h1 : BW w [(w.heap.size, #[.int .i64 x.re, .int .i64 x.im, .int .i64 x.den, .int .i64 y.re, .int .i64 y.im, .int .i64 y.den], 100)] (w.alloc (.cells #[.int .i64 x.re, .int .i64 x.im, .int .i64 x.den, .int .i64 y.re, .int .i64 y.im, .int .i64 y.den] 100)) := ⟨by exact below_, fun q hq => by obtain rfl := List.mem_singleton.1 hq; exact heap_alloc_last w _⟩
    have h2 := h1.push (Below.refl _ _) #[.int .i64 0, .int .i64 0, .int .i64 0, .int .i64 0, .int .i64 0, .int .i64 0, .int .i64 0, .int .i64 0, .int .i64 0, .int .i64 0, .int .i64 0, .int .i64 0] 28
    rw [World.size_alloc] at h2
    exact h2.bs
  go_upto_region 1 with fail
  rw [← hW]
  clear hW
  obtain ⟨j0, j1, j2, j3, j4, j5⟩ := jn_of (x := x) (y := y) (hW0.at (b := w.heap.size) (cs := #[.int .i64 x.re, .int .i64 x.im, .int .i64 x.den, .int .i64 y.re, .int .i64 y.im, .int .i64 y.den]) (t := 100) (by simp))
  go_upto_region 2 with (first | (go_at_call 94; (with_reducible refine (spower_e x _).mono ?_); rintro e v1 ⟨p, pk, rfl, hb⟩))
  have hP1 := hW0.push hb (frc p) 25
  obtain ⟨bp, hbb⟩ : ∃ b, b = v1.heap.size := ⟨_, rfl⟩
  obtain ⟨W1, hW, hWr⟩ : ∃ W, W = v1.alloc (.cells #[.int .i64 p.re, .int .i64 p.im, .int .i64 p.den] 25) ∧ W = v1.alloc (.cells (frc p) 25) := ⟨_, rfl, rfl⟩
  rw [← hbb, ← hWr] at hP1
  rw [← hW, ← hbb]
  have hW1 := hP1
  clear hP1 hb hW hWr hW0
  clear j0 j1 j2 j3 j4 j5
  clear hbb
  obtain ⟨j0, j1, j2, j3, j4, j5⟩ := jn_of (x := x) (y := y) (hW1.at (b := w.heap.size) (cs := #[.int .i64 x.re, .int .i64 x.im, .int .i64 x.den, .int .i64 y.re, .int .i64 y.im, .int .i64 y.den]) (t := 100) (by simp))
  obtain ⟨p0, p1, p2⟩ := blk_fr0 (f := p) (hW1.at (b := bp) (cs := frc p) (t := 25) (by simp))
  go_upto_region 3 with (first | (go_at_call 94; (with_reducible refine (spower_e y _).mono ?_); rintro e v2 ⟨q, qk, rfl, hb⟩))
  have hP2 := hW1.push hb (frc q) 25
  obtain ⟨bq, hbb⟩ : ∃ b, b = v2.heap.size := ⟨_, rfl⟩
  obtain ⟨W2, hW, hWr⟩ : ∃ W, W = v2.alloc (.cells #[.int .i64 q.re, .int .i64 q.im, .int .i64 q.den] 25) ∧ W = v2.alloc (.cells (frc q) 25) := ⟨_, rfl, rfl⟩
  rw [← hbb, ← hWr] at hP2
  rw [← hW, ← hbb]
  have hW2 := hP2
  clear hP2 hb hW hWr hW1
  clear j0 j1 j2 j3 j4 j5 p0 p1 p2
  clear hbb
  obtain ⟨j0, j1, j2, j3, j4, j5⟩ := jn_of (x := x) (y := y) (hW2.at (b := w.heap.size) (cs := #[.int .i64 x.re, .int .i64 x.im, .int .i64 x.den, .int .i64 y.re, .int .i64 y.im, .int .i64 y.den]) (t := 100) (by simp))
  obtain ⟨p0, p1, p2⟩ := blk_fr0 (f := p) (hW2.at (b := bp) (cs := frc p) (t := 25) (by simp))
  obtain ⟨q0, q1, q2⟩ := blk_fr0 (f := q) (hW2.at (b := bq) (cs := frc q) (t := 25) (by simp))
  go_upto_region 4 with (first | (go_at_call 95; (with_reducible refine (smirror_e y _).mono ?_); rintro e v3 ⟨r, rk, rfl, hb⟩))
  have hP3 := hW2.push hb (frc r) 25
  obtain ⟨br, hbb⟩ : ∃ b, b = v3.heap.size := ⟨_, rfl⟩
  obtain ⟨W3, hW, hWr⟩ : ∃ W, W = v3.alloc (.cells #[.int .i64 r.re, .int .i64 r.im, .int .i64 r.den] 25) ∧ W = v3.alloc (.cells (frc r) 25) := ⟨_, rfl, rfl⟩
  rw [← hbb, ← hWr] at hP3
  rw [← hW, ← hbb]
  have hW3 := hP3
  clear hP3 hb hW hWr hW2
  clear j0 j1 j2 j3 j4 j5 p0 p1 p2 q0 q1 q2
  clear hbb
  cases pk
  ·
    obtain ⟨z0, z1, z2, z3, z4, z5, z6, z7, z8, z9, z10, z11⟩ := (arr_of (hW3.at (b := w.heap.size + 1) (t := 28) (by simp))).z
    have hzf := (arr_of (hW3.at (b := w.heap.size + 1) (t := 28) (by simp))).f
    have hzl := (arr_of (hW3.at (b := w.heap.size + 1) (t := 28) (by simp))).l
    have hBF := hW3.B
    go_wp2
    exact bodyPost_ret (v := .tuple #[mtv zM4, .bool false]) (by simp [results, Tryz.results61, mtv, zM4, go_sem, *]) rfl ⟨zM4, false, rfl, by exact below_⟩
  cases qk
  ·
    obtain ⟨z0, z1, z2, z3, z4, z5, z6, z7, z8, z9, z10, z11⟩ := (arr_of (hW3.at (b := w.heap.size + 1) (t := 28) (by simp))).z
    have hzf := (arr_of (hW3.at (b := w.heap.size + 1) (t := 28) (by simp))).f
    have hzl := (arr_of (hW3.at (b := w.heap.size + 1) (t := 28) (by simp))).l
    have hBF := hW3.B
    go_wp2
    exact bodyPost_ret (v := .tuple #[mtv zM4, .bool false]) (by simp [results, Tryz.results61, mtv, zM4, go_sem, *]) rfl ⟨zM4, false, rfl, by exact below_⟩
  cases rk
  ·
    obtain ⟨z0, z1, z2, z3, z4, z5, z6, z7, z8, z9, z10, z11⟩ := (arr_of (hW3.at (b := w.heap.size + 1) (t := 28) (by simp))).z
    have hzf := (arr_of (hW3.at (b := w.heap.size + 1) (t := 28) (by simp))).f
    have hzl := (arr_of (hW3.at (b := w.heap.size + 1) (t := 28) (by simp))).l
    have hBF := hW3.B
    go_wp2
    exact bodyPost_ret (v := .tuple #[mtv zM4, .bool false]) (by simp [results, Tryz.results61, mtv, zM4, go_sem, *]) rfl ⟨zM4, false, rfl, by exact below_⟩
  obtain ⟨j0, j1, j2, j3, j4, j5⟩ := jn_of (x := x) (y := y) (hW3.at (b := w.heap.size) (cs := #[.int .i64 x.re, .int .i64 x.im, .int .i64 x.den, .int .i64 y.re, .int .i64 y.im, .int .i64 y.den]) (t := 100) (by simp))
  obtain ⟨p0, p1, p2⟩ := blk_fr0 (f := p) (hW3.at (b := bp) (cs := frc p) (t := 25) (by simp))
  obtain ⟨q0, q1, q2⟩ := blk_fr0 (f := q) (hW3.at (b := bq) (cs := frc q) (t := 25) (by simp))
  obtain ⟨r0, r1, r2⟩ := blk_fr0 (f := r) (hW3.at (b := br) (cs := frc r) (t := 25) (by simp))
  go_upto_region 7 with (first | (go_at_call 71; (with_reducible refine (stimes_e x r _).mono ?_); rintro e v4 ⟨c, ck, rfl, hb⟩))
  have hP4 := hW3.push hb (frc c) 25
  obtain ⟨bc, hbb⟩ : ∃ b, b = v4.heap.size := ⟨_, rfl⟩
  obtain ⟨W4, hW, hWr⟩ : ∃ W, W = v4.alloc (.cells #[.int .i64 c.re, .int .i64 c.im, .int .i64 c.den] 25) ∧ W = v4.alloc (.cells (frc c) 25) := ⟨_, rfl, rfl⟩
  rw [← hbb, ← hWr] at hP4
  rw [← hW, ← hbb]
  have hW4 := hP4
  clear hP4 hb hW hWr hW3
  clear j0 j1 j2 j3 j4 j5 p0 p1 p2 q0 q1 q2 r0 r1 r2
  clear hbb
  obtain ⟨j0, j1, j2, j3, j4, j5⟩ := jn_of (x := x) (y := y) (hW4.at (b := w.heap.size) (cs := #[.int .i64 x.re, .int .i64 x.im, .int .i64 x.den, .int .i64 y.re, .int .i64 y.im, .int .i64 y.den]) (t := 100) (by simp))
  obtain ⟨p0, p1, p2⟩ := blk_fr0 (f := p) (hW4.at (b := bp) (cs := frc p) (t := 25) (by simp))
  obtain ⟨q0, q1, q2⟩ := blk_fr0 (f := q) (hW4.at (b := bq) (cs := frc q) (t := 25) (by simp))
  obtain ⟨r0, r1, r2⟩ := blk_fr0 (f := r) (hW4.at (b := br) (cs := frc r) (t := 25) (by simp))
  obtain ⟨c0, c1, c2⟩ := blk_fr0 (f := c) (hW4.at (b := bc) (cs := frc c) (t := 25) (by simp))
  go_upto_region 8 with (first | (go_at_call 96; (with_reducible refine (sadd_e p q _).mono ?_); rintro e v5 ⟨s, sk, rfl, hb⟩))
  have hP5 := hW4.push hb (frc s) 25
  obtain ⟨bs, hbb⟩ : ∃ b, b = v5.heap.size := ⟨_, rfl⟩
  obtain ⟨W5, hW, hWr⟩ : ∃ W, W = v5.alloc (.cells #[.int .i64 s.re, .int .i64 s.im, .int .i64 s.den] 25) ∧ W = v5.alloc (.cells (frc s) 25) := ⟨_, rfl, rfl⟩
  rw [← hbb, ← hWr] at hP5
  rw [← hW, ← hbb]
  have hW5 := hP5
  clear hP5 hb hW hWr hW4
  clear j0 j1 j2 j3 j4 j5 p0 p1 p2 q0 q1 q2 r0 r1 r2 c0 c1 c2
  clear hbb
  obtain ⟨j0, j1, j2, j3, j4, j5⟩ := jn_of (x := x) (y := y) (hW5.at (b := w.heap.size) (cs := #[.int .i64 x.re, .int .i64 x.im, .int .i64 x.den, .int .i64 y.re, .int .i64 y.im, .int .i64 y.den]) (t := 100) (by simp))
  obtain ⟨p0, p1, p2⟩ := blk_fr0 (f := p) (hW5.at (b := bp) (cs := frc p) (t := 25) (by simp))
  obtain ⟨q0, q1, q2⟩ := blk_fr0 (f := q) (hW5.at (b := bq) (cs := frc q) (t := 25) (by simp))
  obtain ⟨r0, r1, r2⟩ := blk_fr0 (f := r) (hW5.at (b := br) (cs := frc r) (t := 25) (by simp))
  obtain ⟨c0, c1, c2⟩ := blk_fr0 (f := c) (hW5.at (b := bc) (cs := frc c) (t := 25) (by simp))
  obtain ⟨s0, s1, s2⟩ := blk_fr0 (f := s) (hW5.at (b := bs) (cs := frc s) (t := 25) (by simp))
  go_upto_region 9 with (first | (go_at_call 97; (with_reducible refine (sless_e p q _).mono ?_); rintro e v6 ⟨t, tk, rfl, hb⟩))
  have hP6 := hW5.push hb (frc t) 25
  obtain ⟨bt, hbb⟩ : ∃ b, b = v6.heap.size := ⟨_, rfl⟩
  obtain ⟨W6, hW, hWr⟩ : ∃ W, W = v6.alloc (.cells #[.int .i64 t.re, .int .i64 t.im, .int .i64 t.den] 25) ∧ W = v6.alloc (.cells (frc t) 25) := ⟨_, rfl, rfl⟩
  rw [← hbb, ← hWr] at hP6
  rw [← hW, ← hbb]
  have hW6 := hP6
  clear hP6 hb hW hWr hW5
  clear j0 j1 j2 j3 j4 j5 p0 p1 p2 q0 q1 q2 r0 r1 r2 c0 c1 c2 s0 s1 s2
  clear hbb
  cases ck
  ·
    obtain ⟨z0, z1, z2, z3, z4, z5, z6, z7, z8, z9, z10, z11⟩ := (arr_of (hW6.at (b := w.heap.size + 1) (t := 28) (by simp))).z
    have hzf := (arr_of (hW6.at (b := w.heap.size + 1) (t := 28) (by simp))).f
    have hzl := (arr_of (hW6.at (b := w.heap.size + 1) (t := 28) (by simp))).l
    have hBF := hW6.B
    go_wp2
    exact bodyPost_ret (v := .tuple #[mtv zM4, .bool false]) (by simp [results, Tryz.results61, mtv, zM4, go_sem, *]) rfl ⟨zM4, false, rfl, by exact below_⟩
  cases sk
  ·
    obtain ⟨z0, z1, z2, z3, z4, z5, z6, z7, z8, z9, z10, z11⟩ := (arr_of (hW6.at (b := w.heap.size + 1) (t := 28) (by simp))).z
    have hzf := (arr_of (hW6.at (b := w.heap.size + 1) (t := 28) (by simp))).f
    have hzl := (arr_of (hW6.at (b := w.heap.size + 1) (t := 28) (by simp))).l
    have hBF := hW6.B
    go_wp2
    exact bodyPost_ret (v := .tuple #[mtv zM4, .bool false]) (by simp [results, Tryz.results61, mtv, zM4, go_sem, *]) rfl ⟨zM4, false, rfl, by exact below_⟩
  cases tk
  ·
    obtain ⟨z0, z1, z2, z3, z4, z5, z6, z7, z8, z9, z10, z11⟩ := (arr_of (hW6.at (b := w.heap.size + 1) (t := 28) (by simp))).z
    have hzf := (arr_of (hW6.at (b := w.heap.size + 1) (t := 28) (by simp))).f
    have hzl := (arr_of (hW6.at (b := w.heap.size + 1) (t := 28) (by simp))).l
    have hBF := hW6.B
    go_wp2
    exact bodyPost_ret (v := .tuple #[mtv zM4, .bool false]) (by simp [results, Tryz.results61, mtv, zM4, go_sem, *]) rfl ⟨zM4, false, rfl, by exact below_⟩
  obtain ⟨j0, j1, j2, j3, j4, j5⟩ := jn_of (x := x) (y := y) (hW6.at (b := w.heap.size) (cs := #[.int .i64 x.re, .int .i64 x.im, .int .i64 x.den, .int .i64 y.re, .int .i64 y.im, .int .i64 y.den]) (t := 100) (by simp))
  obtain ⟨p0, p1, p2⟩ := blk_fr0 (f := p) (hW6.at (b := bp) (cs := frc p) (t := 25) (by simp))
  obtain ⟨q0, q1, q2⟩ := blk_fr0 (f := q) (hW6.at (b := bq) (cs := frc q) (t := 25) (by simp))
  obtain ⟨r0, r1, r2⟩ := blk_fr0 (f := r) (hW6.at (b := br) (cs := frc r) (t := 25) (by simp))
  obtain ⟨c0, c1, c2⟩ := blk_fr0 (f := c) (hW6.at (b := bc) (cs := frc c) (t := 25) (by simp))
  obtain ⟨s0, s1, s2⟩ := blk_fr0 (f := s) (hW6.at (b := bs) (cs := frc s) (t := 25) (by simp))
  obtain ⟨t0, t1, t2⟩ := blk_fr0 (f := t) (hW6.at (b := bt) (cs := frc t) (t := 25) (by simp))
  go_upto_region 12 with (first | (go_at_call 98; (with_reducible refine (twice_e c.re c.den _).mono ?_); rintro e v7 ⟨u, uk, rfl, hb⟩))
  have hP7 := hW6.push hb (frc u) 25
  obtain ⟨bu, hbb⟩ : ∃ b, b = v7.heap.size := ⟨_, rfl⟩
  obtain ⟨W7, hW, hWr⟩ : ∃ W, W = v7.alloc (.cells #[.int .i64 u.re, .int .i64 u.im, .int .i64 u.den] 25) ∧ W = v7.alloc (.cells (frc u) 25) := ⟨_, rfl, rfl⟩
  rw [← hbb, ← hWr] at hP7
  rw [← hW, ← hbb]
  have hW7 := hP7
  clear hP7 hb hW hWr hW6
  clear j0 j1 j2 j3 j4 j5 p0 p1 p2 q0 q1 q2 r0 r1 r2 c0 c1 c2 s0 s1 s2 t0 t1 t2
  clear hbb
  obtain ⟨j0, j1, j2, j3, j4, j5⟩ := jn_of (x := x) (y := y) (hW7.at (b := w.heap.size) (cs := #[.int .i64 x.re, .int .i64 x.im, .int .i64 x.den, .int .i64 y.re, .int .i64 y.im, .int .i64 y.den]) (t := 100) (by simp))
  obtain ⟨p0, p1, p2⟩ := blk_fr0 (f := p) (hW7.at (b := bp) (cs := frc p) (t := 25) (by simp))
  obtain ⟨q0, q1, q2⟩ := blk_fr0 (f := q) (hW7.at (b := bq) (cs := frc q) (t := 25) (by simp))
  obtain ⟨r0, r1, r2⟩ := blk_fr0 (f := r) (hW7.at (b := br) (cs := frc r) (t := 25) (by simp))
  obtain ⟨c0, c1, c2⟩ := blk_fr0 (f := c) (hW7.at (b := bc) (cs := frc c) (t := 25) (by simp))
  obtain ⟨s0, s1, s2⟩ := blk_fr0 (f := s) (hW7.at (b := bs) (cs := frc s) (t := 25) (by simp))
  obtain ⟨t0, t1, t2⟩ := blk_fr0 (f := t) (hW7.at (b := bt) (cs := frc t) (t := 25) (by simp))
  obtain ⟨u0, u1, u2⟩ := blk_fr0 (f := u) (hW7.at (b := bu) (cs := frc u) (t := 25) (by simp))
  go_upto_region 13 with (first | (go_at_call 98; (with_reducible refine (twice_e c.im c.den _).mono ?_); rintro e v8 ⟨v, vk, rfl, hb⟩))
  have hP8 := hW7.push hb (frc v) 25
  obtain ⟨bv, hbb⟩ : ∃ b, b = v8.heap.size := ⟨_, rfl⟩
  obtain ⟨W8, hW, hWr⟩ : ∃ W, W = v8.alloc (.cells #[.int .i64 v.re, .int .i64 v.im, .int .i64 v.den] 25) ∧ W = v8.alloc (.cells (frc v) 25) := ⟨_, rfl, rfl⟩
  rw [← hbb, ← hWr] at hP8
  rw [← hW, ← hbb]
  have hW8 := hP8
  clear hP8 hb hW hWr hW7
  clear j0 j1 j2 j3 j4 j5 p0 p1 p2 q0 q1 q2 r0 r1 r2 c0 c1 c2 s0 s1 s2 t0 t1 t2 u0 u1 u2
  clear hbb
  cases uk
  ·
    obtain ⟨z0, z1, z2, z3, z4, z5, z6, z7, z8, z9, z10, z11⟩ := (arr_of (hW8.at (b := w.heap.size + 1) (t := 28) (by simp))).z
    have hzf := (arr_of (hW8.at (b := w.heap.size + 1) (t := 28) (by simp))).f
    have hzl := (arr_of (hW8.at (b := w.heap.size + 1) (t := 28) (by simp))).l
    have hBF := hW8.B
    go_wp2
    exact bodyPost_ret (v := .tuple #[mtv zM4, .bool false]) (by simp [results, Tryz.results61, mtv, zM4, go_sem, *]) rfl ⟨zM4, false, rfl, by exact below_⟩
  cases vk
  ·
    obtain ⟨z0, z1, z2, z3, z4, z5, z6, z7, z8, z9, z10, z11⟩ := (arr_of (hW8.at (b := w.heap.size + 1) (t := 28) (by simp))).z
    have hzf := (arr_of (hW8.at (b := w.heap.size + 1) (t := 28) (by simp))).f
    have hzl := (arr_of (hW8.at (b := w.heap.size + 1) (t := 28) (by simp))).l
    have hBF := hW8.B
    go_wp2
    exact bodyPost_ret (v := .tuple #[mtv zM4, .bool false]) (by simp [results, Tryz.results61, mtv, zM4, go_sem, *]) rfl ⟨zM4, false, rfl, by exact below_⟩
  obtain ⟨j0, j1, j2, j3, j4, j5⟩ := jn_of (x := x) (y := y) (hW8.at (b := w.heap.size) (cs := #[.int .i64 x.re, .int .i64 x.im, .int .i64 x.den, .int .i64 y.re, .int .i64 y.im, .int .i64 y.den]) (t := 100) (by simp))
  obtain ⟨p0, p1, p2⟩ := blk_fr0 (f := p) (hW8.at (b := bp) (cs := frc p) (t := 25) (by simp))
  obtain ⟨q0, q1, q2⟩ := blk_fr0 (f := q) (hW8.at (b := bq) (cs := frc q) (t := 25) (by simp))
  obtain ⟨r0, r1, r2⟩ := blk_fr0 (f := r) (hW8.at (b := br) (cs := frc r) (t := 25) (by simp))
  obtain ⟨c0, c1, c2⟩ := blk_fr0 (f := c) (hW8.at (b := bc) (cs := frc c) (t := 25) (by simp))
  obtain ⟨s0, s1, s2⟩ := blk_fr0 (f := s) (hW8.at (b := bs) (cs := frc s) (t := 25) (by simp))
  obtain ⟨t0, t1, t2⟩ := blk_fr0 (f := t) (hW8.at (b := bt) (cs := frc t) (t := 25) (by simp))
  obtain ⟨u0, u1, u2⟩ := blk_fr0 (f := u) (hW8.at (b := bu) (cs := frc u) (t := 25) (by simp))
  obtain ⟨v0, v1, v2⟩ := blk_fr0 (f := v) (hW8.at (b := bv) (cs := frc v) (t := 25) (by simp))
  obtain ⟨z0, z1, z2, z3, z4, z5, z6, z7, z8, z9, z10, z11⟩ := (arr_of (hW8.at (b := w.heap.size + 1) (t := 28) (by simp))).z
  have hzf := (arr_of (hW8.at (b := w.heap.size + 1) (t := 28) (by simp))).f
  have hzl := (arr_of (hW8.at (b := w.heap.size + 1) (t := 28) (by simp))).l
  have hBF := hW8.B
  go_wp2
  exact bodyPost_ret (v := .tuple #[mtv ⟨s, t, u, v⟩, .bool true]) (by simp [results, Tryz.results61, mtv, go_sem, *]) rfl ⟨⟨s, t, u, v⟩, true, rfl, by exact below_⟩
set_option maxRecDepth 100000 in
set_option maxHeartbeats 4000000 in
theorem dlight_any (br : Nat) (w : World) (hr : RdEx 4 w br) :
    Calls Tryz.prog 24 #[.pointer (some ⟨br, 0, none⟩)] w fun e w' => ∃ m : Mt, e = .returned (mtv m) ∧ Drw 4 br w w' ∧ True := by
  obtain ⟨k, hr, hmin, hk⟩ := hr.min
  have hlt := hr.lt
  have hne : w.heap.size ≠ br := by omega
  have hA0 := ArrW.zero w 28
  have hr0 := hr.alloc (.cells #[.int .i64 0, .int .i64 0, .int .i64 0, .int .i64 0, .int .i64 0, .int .i64 0, .int .i64 0, .int .i64 0, .int .i64 0, .int .i64 0, .int .i64 0, .int .i64 0] 28)
  have hX0 : BelX w.heap.size br w (w.alloc (.cells #[.int .i64 0, .int .i64 0, .int .i64 0, .int .i64 0, .int .i64 0, .int .i64 0, .int .i64 0, .int .i64 0, .int .i64 0, .int .i64 0, .int .i64 0, .int .i64 0] 28)) := BelX.of (by exact below_)
  go_enter Tryz.func24, Tryz.ntmps24
  go_wp2_with (go_at_call 22; (with_reducible refine (pick_any 5 br _ (RdEx.of hr0 (by omega)) (by omega) (by omega)).mono ?_); rintro e w1 ⟨a, rfl, ⟨hu, hX⟩, a0, a1⟩; refine Hid.out ?_)
  refine Lib.hid ?_
  have hr1 := hu _ hr0
  have hA1 := hA0.step hX hne
  have hX1 : BelX w.heap.size br w w1 := BelX.step hX0 hX hX0.size
  clear hu hX hr0 hA0 hX0
  go_wp2_with (go_at_call 22; (with_reducible refine (pick_any 3 br _ (RdEx.of hr1 (by omega)) (by omega) (by omega)).mono ?_); rintro e w2 ⟨b, rfl, ⟨hu, hX⟩, b0, b1⟩; refine Hid.out ?_)
  refine Lib.hid ?_
  have hr2 := hu _ hr1
  have hA2 := hA1.step hX hne
  have hX2 : BelX w.heap.size br w w2 := BelX.step hX1 hX hX1.size
  clear hu hX hr1 hA1 hX1
  go_wp2_with (go_at_call 22; (with_reducible refine (pick_any 5 br _ (RdEx.of hr2 (by omega)) (by omega) (by omega)).mono ?_); rintro e w3 ⟨c, rfl, ⟨hu, hX⟩, c0, c1⟩; refine Hid.out ?_)
  refine Lib.hid ?_
  have hr3 := hu _ hr2
  have hA3 := hA2.step hX hne
  have hX3 : BelX w.heap.size br w w3 := BelX.step hX2 hX hX2.size
  clear hu hX hr2 hA2 hX2
  go_wp2_with (go_at_call 22; (with_reducible refine (pick_any 3 br _ (RdEx.of hr3 (by omega)) (by omega) (by omega)).mono ?_); rintro e w4 ⟨d, rfl, ⟨hu, hX⟩, d0, d1⟩; refine Hid.out ?_)
  refine Lib.hid ?_
  have hr4 := hu _ hr3
  have hA4 := hA3.step hX hne
  have hX4 : BelX w.heap.size br w w4 := BelX.step hX3 hX hX3.size
  clear hu hX hr3 hA3 hX3
  go_upto_region 2 with fail
  obtain ⟨W5, hW, hr5, hA5, hX5⟩ : ∃ W, W = w4.alloc (.cells #[.int .i64 (a - 2), .int .i64 (b - 1), .int .i64 1, .int .i64 (c - 2), .int .i64 (d - 1), .int .i64 1] 100) ∧ RdIs W br (k + 4) ∧ ArrW W w.heap.size zs4 ∧ BelX w.heap.size br w W := ⟨_, rfl, (hr4.alloc _).mono (by omega), hA4.alloc _, hX4.alloc hX4.size _⟩
  have hz4 := hX4.size
  have hcs : Blk W5 w4.heap.size #[.int .i64 (a - 2), .int .i64 (b - 1), .int .i64 1, .int .i64 (c - 2), .int .i64 (d - 1), .int .i64 1] 100 := by rw [hW]; exact heap_alloc_last w4 _
  obtain ⟨j0, j1, j2, j3, j4, j5⟩ := jn_of (x := ⟨a - 2, b - 1, 1⟩) (y := ⟨c - 2, d - 1, 1⟩) hcs
  subst hW
  go_upto_region 3 with (go_at_call 61; (with_reducible refine (sstokesOf_any ⟨a - 2, b - 1, 1⟩ ⟨c - 2, d - 1, 1⟩ _).mono ?_); rintro e w6 ⟨m, ok, rfl, hb⟩)
  have hA6 := (hA5.below hb).alloc (.cells #[.int .i64 m.a.re, .int .i64 m.a.im, .int .i64 m.a.den, .int .i64 m.b.re, .int .i64 m.b.im, .int .i64 m.b.den, .int .i64 m.c.re, .int .i64 m.c.im, .int .i64 m.c.den, .int .i64 m.d.re, .int .i64 m.d.im, .int .i64 m.d.den] 28)
  have hr6 := (hr5.below hb hr5.lt).alloc (.cells #[.int .i64 m.a.re, .int .i64 m.a.im, .int .i64 m.a.den, .int .i64 m.b.re, .int .i64 m.b.im, .int .i64 m.b.den, .int .i64 m.c.re, .int .i64 m.c.im, .int .i64 m.c.den, .int .i64 m.d.re, .int .i64 m.d.im, .int .i64 m.d.den] 28)
  have hX6 : BelX w.heap.size br w (w6.alloc (.cells #[.int .i64 m.a.re, .int .i64 m.a.im, .int .i64 m.a.den, .int .i64 m.b.re, .int .i64 m.b.im, .int .i64 m.b.den, .int .i64 m.c.re, .int .i64 m.c.im, .int .i64 m.c.den, .int .i64 m.d.re, .int .i64 m.d.im, .int .i64 m.d.den] 28)) := by
    have h9 : BelX w.heap.size br w w6 := BelX.step hX5 (BelX.of hb) hX5.size
    exact h9.alloc h9.size _
  obtain ⟨m0, m1, m2, m3, m4, m5, m6, m7, m8, m9, m10, m11⟩ := MtAt.new w6 m 28
  obtain ⟨W7, hW7⟩ : ∃ W, W = w6.alloc (.cells #[.int .i64 m.a.re, .int .i64 m.a.im, .int .i64 m.a.den, .int .i64 m.b.re, .int .i64 m.b.im, .int .i64 m.b.den, .int .i64 m.c.re, .int .i64 m.c.im, .int .i64 m.c.den, .int .i64 m.d.re, .int .i64 m.d.im, .int .i64 m.d.den] 28) := ⟨_, rfl⟩
  obtain ⟨b7, hb7⟩ : ∃ b, b = w6.heap.size := ⟨_, rfl⟩
  have hbz : w.heap.size < b7 := by have := hb.size; have := hA5.l; omega
  rw [← hW7] at hA6 hr6 hX6
  rw [← hW7, ← hb7] at m0 m1 m2 m3 m4 m5 m6 m7 m8 m9 m10 m11
  rw [← hW7, ← hb7]
  obtain ⟨z0, z1, z2, z3, z4, z5, z6, z7, z8, z9, z10, z11⟩ := hA6.z
  have hzf := hA6.f
  have hzl := hA6.l
  clear hW7 hb7 hb hcs j0 j1 j2 j3 j4 j5
  go_wp2
  exact bodyPost_ret (v := mtv m) (by simp [results, Tryz.results24, mtv, go_sem, *]) rfl ⟨m, rfl, drw_mk hmin (by exact rd_) (by exact belx_), trivial⟩
end Go.Proofs.YtodhbkinbcemnaaGreatDoor
