/-
  The light at a port is pure, in plain Lean. No program in sight.
-/
import Derived.Test.YtjbnkefeacineaaGreatDoorIn
import Derived.Test.YtjbnkefeacineaaGreatDoorJh
namespace Go.Proofs.YtjbnkefeacineaaGreatDoor
set_option linter.unusedSimpArgs false
set_option linter.unusedVariables false
open Go.RowKit
theorem stokes_open {a : Jn} {m : Mt} (h : stokesI a = some m) : ∃ p q w c, powerI a.x = some p ∧ powerI a.y = some q ∧ mirrorI a.y = some w ∧ timesI a.x w = some c ∧ addI p q = some m.a ∧ lessI p q = some m.b ∧ twiceI c.re c.den = some m.c ∧ twiceI c.im c.den = some m.d := by
  unfold stokesI at h
  obtain ⟨p, h1, h⟩ := Option.bind_eq_some_iff.1 h
  obtain ⟨q, h2, h⟩ := Option.bind_eq_some_iff.1 h
  obtain ⟨w, h3, h⟩ := Option.bind_eq_some_iff.1 h
  obtain ⟨c, h4, h⟩ := Option.bind_eq_some_iff.1 h
  obtain ⟨s, h5, h⟩ := Option.bind_eq_some_iff.1 h
  obtain ⟨l, h6, h⟩ := Option.bind_eq_some_iff.1 h
  obtain ⟨u, h7, h⟩ := Option.bind_eq_some_iff.1 h
  obtain ⟨v, h8, h⟩ := Option.bind_eq_some_iff.1 h
  obtain rfl := Option.some.inj h
  exact ⟨p, q, w, c, h1, h2, h3, h4, h5, h6, h7, h8⟩
theorem q_twice {n den : Int} {u : Fr} (hn : -2000000000 ≤ n ∧ n ≤ 2000000000) (hd : 1 ≤ den ∧ den ≤ 2000000000) (e : twiceI n den = some u) : realOk u = true ∧ qr u = 2 * ((n : Rat) / (den : Rat)) := by
  rw [twice_low hn hd] at e
  obtain ⟨h1, h2, h3⟩ := lowI_val hd.1 e
  obtain ⟨-, h4, -⟩ := cq_low hd.1 e
  have him : u.im = 0 := by
    rw [Int.zero_mul] at h3
    rcases Int.mul_eq_zero.1 h3 with h | h
    · exact h
    · omega
  refine ⟨by simp [realOk, h1, him], ?_⟩
  rw [h4, Rat.div_def, Rat.div_def, Rat.intCast_mul]
  grind
/-- The first number is the power, and its square is the sum of the squares of the others. -/
theorem pure_law {a : Jn} {m : Mt} (h : stokesI a = some m) : realOk m.a = true ∧ realOk m.b = true ∧ realOk m.c = true ∧ realOk m.d = true ∧ qr m.a * qr m.a = qr m.b * qr m.b + qr m.c * qr m.c + qr m.d * qr m.d ∧ 0 ≤ qr m.a := by
  obtain ⟨p, q, w, c, h1, h2, h3, h4, h5, h6, h7, h8⟩ := stokes_open h
  obtain ⟨rp, vp⟩ := cq_power h1
  obtain ⟨rq, vq⟩ := cq_power h2
  obtain ⟨vw1, vw2⟩ := cq_mirror h3
  obtain ⟨hc, vc1, vc2⟩ := cq_times h4
  obtain ⟨ra, va⟩ := q_add rp rq h5
  obtain ⟨rb, vb⟩ := q_less rp rq h6
  have hb := fvalid_bd c hc
  obtain ⟨rc, wc⟩ := q_twice hb.1 hb.2.2 h7
  obtain ⟨rd, wd⟩ := q_twice hb.2.1 hb.2.2 h8
  have wc : qr m.c = 2 * qr c := wc
  have wd : qr m.d = 2 * qi c := wd
  refine ⟨ra, rb, rc, rd, ?_, ?_⟩
  · rw [wc, wd, vc1, vc2, va, vb, vp, vq, vw1, vw2]
    generalize qr a.x = x
    generalize qi a.x = y
    generalize qr a.y = s
    generalize qi a.y = t
    grind
  · rw [va, vp, vq]
    have := sq_nnR (qr a.x)
    have := sq_nnR (qi a.x)
    have := sq_nnR (qr a.y)
    have := sq_nnR (qi a.y)
    grind
theorem re_nn {f : Fr} (h : realOk f = true) (h0 : 0 ≤ qr f) : 0 ≤ f.re := by
  have h1 := qr_mul h
  have h2 := (real_parts h).2.2
  have h3 : (0 : Rat) < (f.den : Rat) := q_pos (by omega)
  have h4 : (0 : Rat) ≤ (f.re : Rat) := by rw [← h1]; exact Rat.mul_nonneg h0 (Rat.le_of_lt h3)
  exact_mod_cast h4
/-- The comparison that tells pure light. -/
theorem pure_cmp {a : Jn} {m : Mt} {u1 u2 u3 u4 q p : Fr} (h : stokesI a = some m) (h1 : timesI m.b m.b = some u1) (h2 : timesI m.c m.c = some u2) (h3 : addI u1 u2 = some u3) (h4 : timesI m.d m.d = some u4) (h5 : addI u3 u4 = some q) (hp : timesI m.a m.a = some p) : cmpI p q = some 0 ∧ 0 ≤ m.a.re := by
  obtain ⟨ra, rb, rc, rd, e, nn⟩ := pure_law h
  obtain ⟨r1, v1⟩ := q_times rb rb h1
  obtain ⟨r2, v2⟩ := q_times rc rc h2
  obtain ⟨r3, v3⟩ := q_add r1 r2 h3
  obtain ⟨r4, v4⟩ := q_times rd rd h4
  obtain ⟨r5, v5⟩ := q_add r3 r4 h5
  obtain ⟨r6, v6⟩ := q_times ra ra hp
  refine ⟨?_, re_nn ra nn⟩
  rw [cmpI_ok r6 r5, (cmpV_eq r6 r5).2 (by rw [v6, v5, v3, v1, v2, v4]; exact e)]
/-- The first number at a port is the power at the first port. -/
theorem table_power {a b : List UInt8} {k : Int} {v : Jn} {m : Mt} {p q : Fr} (h : tableI a b k v = some m) (hp : powersI a b k v = some (p, q)) : p = m.a := by
  obtain ⟨x, y, h1, -, h3, -⟩ := powers_open hp
  unfold tableI at h
  rw [h1, Option.bind_some] at h
  obtain ⟨s, t, w, c, g1, g2, -, -, g5, -⟩ := stokes_open h
  obtain ⟨-, s', t', g1', g2', g5'⟩ := jpower_open h3
  rw [g1] at g1'
  rw [g2] at g2'
  obtain rfl := Option.some.inj g1'
  obtain rfl := Option.some.inj g2'
  rw [g5] at g5'
  exact (Option.some.inj g5').symm
theorem table_open {a b : List UInt8} {k : Int} {v : Jn} {m : Mt} (h : tableI a b k v = some m) : ∃ x, stokesI x = some m := by
  unfold tableI at h
  obtain ⟨x, -, h⟩ := Option.bind_eq_some_iff.1 h
  exact ⟨x, h⟩
end Go.Proofs.YtjbnkefeacineaaGreatDoor
