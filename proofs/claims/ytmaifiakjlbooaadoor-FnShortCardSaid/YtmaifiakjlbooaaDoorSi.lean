/-
  The walk of what makes a fibre short: the program.
-/
import Derived.Test.YtmaifiakjlbooaaDoorSh
namespace Go.Proofs.YtmaifiakjlbooaaDoor
set_option linter.unusedSimpArgs false
set_option linter.unusedVariables false
open Go.RowKit
set_option maxRecDepth 100000 in
set_option maxHeartbeats 4000000 in
theorem short_any (A : Option Addr) (len cap : Nat) (xs : List Sec) (w : World) (h : Secs A len cap xs w) :
    Calls Tryd.prog 19 #[.slice A len cap] w fun e w' => ∃ v, e = .returned (.tuple #[v, .bool (fibOk xs)]) ∧ Own w.heap.size v (shortI xs) w' ∧ Below w.heap.size w w' := by
  have hV : ∀ w1, Below w.heap.size w w1 → Secs A len cap xs w1 := fun w1 hb => h.below hb
  have hB0 : Below w.heap.size w (w.alloc (.cells #[] 24)) := (Below.refl _ _).alloc (Nat.le_refl _) _
  have hO0 := Own.made w w.heap.size (Nat.le_refl _)
  cases hf : fibOk xs
  · go_enter Tryd.func19, Tryd.ntmps19
    go_wp2_with (first | (go_at_call 55; (with_reducible refine (fibValid_f A len cap xs _ (hV _ (by (repeat' (first | (with_reducible exact Below.refl _ _) | (with_reducible assumption) | (with_reducible refine Below.setCell ?_ (by first | omega | (simp; done) | (simp; omega)) _) | (with_reducible refine Below.alloc ?_ (by first | omega | (simp; done) | (simp; omega)) _) | (with_reducible refine below_drewN ?_ _) | (with_reducible refine Below.drew ?_))))) hf).mono ?_); rintro e w1 ⟨rfl, hb⟩; have hO := hO0.below hb; have hB : Below w.heap.size w w1 := bstep hB0 hb (by simp)))
    go_ret2
    exact ⟨_, rfl, by simpa [shortI, hf] using hO, hB⟩
  · have hlen := fibOk_len hf
    have hxl := h.1
    have hl := h.2.1
    have hm := h.2.2.1
    go_enter Tryd.func19, Tryd.ntmps19
    go_wp2_with (first | (go_at_call 55; (with_reducible refine (fibValid_t A len cap xs _ (hV _ (by (repeat' (first | (with_reducible exact Below.refl _ _) | (with_reducible assumption) | (with_reducible refine Below.setCell ?_ (by first | omega | (simp; done) | (simp; omega)) _) | (with_reducible refine Below.alloc ?_ (by first | omega | (simp; done) | (simp; omega)) _) | (with_reducible refine below_drewN ?_ _) | (with_reducible refine Below.drew ?_))))) hf).mono ?_); rintro e w1 ⟨rfl, hb⟩; have hO := hO0.below hb; have hB : Below w.heap.size w w1 := bstep hB0 hb (by simp); clear hb))
    have hl8 : len ≤ 8 := by omega
    have HXL := Lib.hid hxl
    clear hxl hO0 hB0 hV hlen
    go_loopw [4, 6, 7, 15] (fun v _ _ i wr => ∃ k : Nat, k ≤ len ∧ i = .int .i64 k ∧ Own w.heap.size v (shortK xs k) wr ∧ Below w.heap.size w wr) (fun _ _ _ i _ => len - (intOf i).toNat)
    case atStart => exact ⟨0, Nat.zero_le _, rfl, by simpa [shortK] using hO, hB⟩
    case round =>
      clear hO hB
      obtain ⟨k, hk, rfl, hO, hb⟩ := hrel
      have hz := hb.size
      by_cases hkl : k < len
      · obtain ⟨b1, o1, s, rfl, hlt1, hs1, hc1⟩ := h.at hb hkl
        obtain ⟨p0, p1⟩ := fibOk_ph hf (List.mem_of_getElem? hs1)
        obtain ⟨t0, t1⟩ := fibOk_t hf (List.mem_of_getElem? hs1)
        obtain ⟨c0, c1, c2, c3⟩ := hc1
        have HSu := Lib.hid (shortK_succ hs1)
        clear hs1
        obtain ⟨e0, e1⟩ := beatI_bd s.ph
        have e2 : ¬ beatI s.ph = 0 := by omega
        obtain ⟨out, hout⟩ : ∃ out, out = shortK xs k := ⟨_, rfl⟩
        have hol := shortK_len xs k
        have hos := Lib.hid (shortK_small xs k)
        rw [← hout] at hO hol hos HSu
        clear hout
        obtain ⟨n, hn⟩ : ∃ n, n = out.length := ⟨_, rfl⟩
        obtain ⟨A2, cap2, rfl, hS2⟩ := hO.secs
        have hcap2 := hS2.2.1
        have hcap3 := hS2.2.2.1
        clear hS2
        have hne : ∀ k, Value.ownBlock (.slice A2 out.length cap2) = some k → k < wr.heap.size := fun k e => (hO.lt k e).2
        rw [← hn] at hO hol hcap2 hne ⊢
        have hn8 : n < 9 := by omega
        have HN := Lib.hid hn
        clear hn
        by_cases hn0 : n = 0
        · subst hn0
          have HSt := Lib.hid (step_put (out := out) (s := s) (.inl HN.out.symm))
          have hlt4 : out.length < 4000000 := by rw [← HN.out]; omega
          have hT := tmod_beat (s.t) s.ph (by omega)
          obtain ⟨m0, m1⟩ := mod_bd (s.t) (beatI s.ph) e0 e1
          by_cases ht : 0 < (s.t) % beatI s.ph
          · go_wp2
            (try go_quiet (fail)); (try go_wp2)
            go_region_with (first | (go_at_call 52; (with_reducible refine (beat_any s.ph _ p0 p1).mono ?_); rintro e w1 ⟨rfl, hb1⟩; obtain ⟨hc, hf⟩ := bf hb1 (wr.heap.size + 1) (by first | omega | (simp; done) | (simp; omega)); have hO1 : Own w.heap.size (.slice A2 0 cap2) (out) w1 := (by refine Own.below ?_ hb1; (repeat' (first | (with_reducible assumption) | (with_reducible apply Own.alloc) | (with_reducible apply Own.drewN) | (with_reducible apply Own.drew) | (with_reducible refine Own.far ?_ ?_ _) | (exact fun k e => Nat.ne_of_lt (hne k e))))); have hz1 := hb1.size; (try simp only [World.size_alloc, World.size_setCell, World.size_drew, World.heap_drewN] at hz1); have hB1 : Below w.heap.size w w1 := bstep (by (repeat' (first | (with_reducible exact Below.refl _ _) | (with_reducible assumption) | (with_reducible refine Below.setCell ?_ (by first | omega | (simp; done) | (simp; omega)) _) | (with_reducible refine Below.alloc ?_ (by first | omega | (simp; done) | (simp; omega)) _) | (with_reducible refine below_drewN ?_ _) | (with_reducible refine Below.drew ?_)))) hb1 (by first | omega | (simp; done) | (simp; omega)); clear hb1))
            all_goals go_wp2_with (at_builtin; refine append_sec rfl (.tmp 76) (.tmp 78) rfl w.heap.size _ _ _ (by rfl) (hO1.far (fun k e => Nat.ne_of_lt (hne k e)) _) ⟨s.p, s.q, s.ph, (s.t) % beatI s.ph⟩ (by show Value.slice _ _ _ = _; simp) (by omega) (by simp; omega) ?_; intro v' w2 hO2 hg2; have hB2 : Below w.heap.size w w2 := below_own (by (repeat' (first | (with_reducible exact Below.refl _ _) | (with_reducible assumption) | (with_reducible refine Below.setCell ?_ (by first | omega | (simp; done) | (simp; omega)) _) | (with_reducible refine Below.alloc ?_ (by first | omega | (simp; done) | (simp; omega)) _) | (with_reducible refine below_drewN ?_ _) | (with_reducible refine Below.drew ?_)))) (hO1.far (fun k e => Nat.ne_of_lt (hne k e)) _) (Nat.le_refl _) hg2; clear hg2)
            all_goals (go_roundw; (case rel => refine ⟨k + 1, by omega, by go_num, ?_, by (repeat' (first | (with_reducible exact Below.refl _ _) | (with_reducible assumption) | (with_reducible refine Below.setCell ?_ (by first | omega | (simp; done) | (simp; omega)) _) | (with_reducible refine Below.alloc ?_ (by first | omega | (simp; done) | (simp; omega)) _) | (with_reducible refine below_drewN ?_ _) | (with_reducible refine Below.drew ?_)))⟩; rw [HSu.out, HSt.out, putS_pos ht]; exact hO2); (case measure => simp [intOf]; omega))
          · go_wp2
            (try go_quiet (fail)); (try go_wp2)
            go_region_with (first | (go_at_call 52; (with_reducible refine (beat_any s.ph _ p0 p1).mono ?_); rintro e w1 ⟨rfl, hb1⟩; obtain ⟨hc, hf⟩ := bf hb1 (wr.heap.size + 1) (by first | omega | (simp; done) | (simp; omega)); have hO1 : Own w.heap.size (.slice A2 0 cap2) (out) w1 := (by refine Own.below ?_ hb1; (repeat' (first | (with_reducible assumption) | (with_reducible apply Own.alloc) | (with_reducible apply Own.drewN) | (with_reducible apply Own.drew) | (with_reducible refine Own.far ?_ ?_ _) | (exact fun k e => Nat.ne_of_lt (hne k e))))); have hz1 := hb1.size; (try simp only [World.size_alloc, World.size_setCell, World.size_drew, World.heap_drewN] at hz1); have hB1 : Below w.heap.size w w1 := bstep (by (repeat' (first | (with_reducible exact Below.refl _ _) | (with_reducible assumption) | (with_reducible refine Below.setCell ?_ (by first | omega | (simp; done) | (simp; omega)) _) | (with_reducible refine Below.alloc ?_ (by first | omega | (simp; done) | (simp; omega)) _) | (with_reducible refine below_drewN ?_ _) | (with_reducible refine Below.drew ?_)))) hb1 (by first | omega | (simp; done) | (simp; omega)); clear hb1))
            all_goals (try go_wp2)
            all_goals (go_roundw; (case rel => refine ⟨k + 1, by omega, by go_num, ?_, by (repeat' (first | (with_reducible exact Below.refl _ _) | (with_reducible assumption) | (with_reducible refine Below.setCell ?_ (by first | omega | (simp; done) | (simp; omega)) _) | (with_reducible refine Below.alloc ?_ (by first | omega | (simp; done) | (simp; omega)) _) | (with_reducible refine below_drewN ?_ _) | (with_reducible refine Below.drew ?_)))⟩; rw [HSu.out, HSt.out, putS_neg (s := s) (by omega)]; exact hO1.far (fun k e => Nat.ne_of_lt (hne k e)) _); (case measure => simp [intOf]; omega))
        · obtain ⟨m, rfl⟩ : ∃ m, n = m + 1 := ⟨n - 1, by omega⟩
          obtain ⟨l, hl1, hl2, hl3⟩ := last_at HN.out
          obtain ⟨lt0, lt1⟩ := hos.out l (List.mem_of_getElem? hl1)
          obtain ⟨g, cp, hv, hbg, hlt, hat, hfz⟩ := hO.at m l hl1
          have hv2 : A2 = some ⟨g, 0, none⟩ := by injection hv
          subst hv2
          clear hv hfz
          have HL2 := Lib.hid hl2
          have HL3 := Lib.hid hl3
          clear hl1 hl2 hl3
          obtain ⟨l0, l1, l2, l3⟩ := hat
          have hlt4 : out.length < 4000000 := by rw [← HN.out]; omega
          cases hsm : sameSec l s
          · have HSt := Lib.hid (step_put (out := out) (s := s) (.inr ⟨l, HL2.out, hsm⟩))
            by_cases hp : l.p = s.p
            · by_cases hq : l.q = s.q
              · have hph : ¬ l.ph = s.ph := by intro e; simp [sameSec, hp, hq, e] at hsm
                clear hsm
                have hT := tmod_beat (s.t) s.ph (by omega)
                obtain ⟨m0, m1⟩ := mod_bd (s.t) (beatI s.ph) e0 e1
                by_cases ht : 0 < (s.t) % beatI s.ph
                · go_wp2
                  go_quiet (fail); go_wp2
                  go_region_with (first | (go_at_call 52; (with_reducible refine (beat_any s.ph _ p0 p1).mono ?_); rintro e w1 ⟨rfl, hb1⟩; obtain ⟨hc, hf⟩ := bf hb1 (wr.heap.size + 1) (by first | omega | (simp; done) | (simp; omega)); have hO1 : Own w.heap.size (.slice (some ⟨g, 0, none⟩) (m + 1) cap2) (out) w1 := (by refine Own.below ?_ hb1; (repeat' (first | (with_reducible assumption) | (with_reducible apply Own.alloc) | (with_reducible apply Own.drewN) | (with_reducible apply Own.drew) | (with_reducible refine Own.far ?_ ?_ _) | (exact fun k e => Nat.ne_of_lt (hne k e))))); have hz1 := hb1.size; (try simp only [World.size_alloc, World.size_setCell, World.size_drew, World.heap_drewN] at hz1); have hB1 : Below w.heap.size w w1 := bstep (by (repeat' (first | (with_reducible exact Below.refl _ _) | (with_reducible assumption) | (with_reducible refine Below.setCell ?_ (by first | omega | (simp; done) | (simp; omega)) _) | (with_reducible refine Below.alloc ?_ (by first | omega | (simp; done) | (simp; omega)) _) | (with_reducible refine below_drewN ?_ _) | (with_reducible refine Below.drew ?_)))) hb1 (by first | omega | (simp; done) | (simp; omega)); clear hb1))
                  all_goals go_wp2_with (at_builtin; refine append_sec rfl (.tmp 76) (.tmp 78) rfl w.heap.size _ _ _ (by rfl) (hO1.far (fun k e => Nat.ne_of_lt (hne k e)) _) ⟨s.p, s.q, s.ph, (s.t) % beatI s.ph⟩ (by show Value.slice _ _ _ = _; simp) (by omega) (by simp; omega) ?_; intro v' w2 hO2 hg2; have hB2 : Below w.heap.size w w2 := below_own (by (repeat' (first | (with_reducible exact Below.refl _ _) | (with_reducible assumption) | (with_reducible refine Below.setCell ?_ (by first | omega | (simp; done) | (simp; omega)) _) | (with_reducible refine Below.alloc ?_ (by first | omega | (simp; done) | (simp; omega)) _) | (with_reducible refine below_drewN ?_ _) | (with_reducible refine Below.drew ?_)))) (hO1.far (fun k e => Nat.ne_of_lt (hne k e)) _) (Nat.le_refl _) hg2; clear hg2)
                  all_goals (go_roundw; (case rel => refine ⟨k + 1, by omega, by go_num, ?_, by (repeat' (first | (with_reducible exact Below.refl _ _) | (with_reducible assumption) | (with_reducible refine Below.setCell ?_ (by first | omega | (simp; done) | (simp; omega)) _) | (with_reducible refine Below.alloc ?_ (by first | omega | (simp; done) | (simp; omega)) _) | (with_reducible refine below_drewN ?_ _) | (with_reducible refine Below.drew ?_)))⟩; rw [HSu.out, HSt.out, putS_pos ht]; exact hO2); (case measure => simp [intOf]; omega))
                · go_wp2
                  go_quiet (fail); go_wp2
                  go_region_with (first | (go_at_call 52; (with_reducible refine (beat_any s.ph _ p0 p1).mono ?_); rintro e w1 ⟨rfl, hb1⟩; obtain ⟨hc, hf⟩ := bf hb1 (wr.heap.size + 1) (by first | omega | (simp; done) | (simp; omega)); have hO1 : Own w.heap.size (.slice (some ⟨g, 0, none⟩) (m + 1) cap2) (out) w1 := (by refine Own.below ?_ hb1; (repeat' (first | (with_reducible assumption) | (with_reducible apply Own.alloc) | (with_reducible apply Own.drewN) | (with_reducible apply Own.drew) | (with_reducible refine Own.far ?_ ?_ _) | (exact fun k e => Nat.ne_of_lt (hne k e))))); have hz1 := hb1.size; (try simp only [World.size_alloc, World.size_setCell, World.size_drew, World.heap_drewN] at hz1); have hB1 : Below w.heap.size w w1 := bstep (by (repeat' (first | (with_reducible exact Below.refl _ _) | (with_reducible assumption) | (with_reducible refine Below.setCell ?_ (by first | omega | (simp; done) | (simp; omega)) _) | (with_reducible refine Below.alloc ?_ (by first | omega | (simp; done) | (simp; omega)) _) | (with_reducible refine below_drewN ?_ _) | (with_reducible refine Below.drew ?_)))) hb1 (by first | omega | (simp; done) | (simp; omega)); clear hb1))
                  all_goals (try go_wp2)
                  all_goals (go_roundw; (case rel => refine ⟨k + 1, by omega, by go_num, ?_, by (repeat' (first | (with_reducible exact Below.refl _ _) | (with_reducible assumption) | (with_reducible refine Below.setCell ?_ (by first | omega | (simp; done) | (simp; omega)) _) | (with_reducible refine Below.alloc ?_ (by first | omega | (simp; done) | (simp; omega)) _) | (with_reducible refine below_drewN ?_ _) | (with_reducible refine Below.drew ?_)))⟩; rw [HSu.out, HSt.out, putS_neg (s := s) (by omega)]; exact hO1.far (fun k e => Nat.ne_of_lt (hne k e)) _); (case measure => simp [intOf]; omega))
              · rw [hp] at l0
                have hqB : (l.q == s.q) = false := by simp [hq]
                clear hsm hp
                have hT := tmod_beat (s.t) s.ph (by omega)
                obtain ⟨m0, m1⟩ := mod_bd (s.t) (beatI s.ph) e0 e1
                by_cases ht : 0 < (s.t) % beatI s.ph
                · go_wp2
                  go_quiet (fail); go_wp2
                  go_region_with (first | (go_at_call 52; (with_reducible refine (beat_any s.ph _ p0 p1).mono ?_); rintro e w1 ⟨rfl, hb1⟩; obtain ⟨hc, hf⟩ := bf hb1 (wr.heap.size + 1) (by first | omega | (simp; done) | (simp; omega)); have hO1 : Own w.heap.size (.slice (some ⟨g, 0, none⟩) (m + 1) cap2) (out) w1 := (by refine Own.below ?_ hb1; (repeat' (first | (with_reducible assumption) | (with_reducible apply Own.alloc) | (with_reducible apply Own.drewN) | (with_reducible apply Own.drew) | (with_reducible refine Own.far ?_ ?_ _) | (exact fun k e => Nat.ne_of_lt (hne k e))))); have hz1 := hb1.size; (try simp only [World.size_alloc, World.size_setCell, World.size_drew, World.heap_drewN] at hz1); have hB1 : Below w.heap.size w w1 := bstep (by (repeat' (first | (with_reducible exact Below.refl _ _) | (with_reducible assumption) | (with_reducible refine Below.setCell ?_ (by first | omega | (simp; done) | (simp; omega)) _) | (with_reducible refine Below.alloc ?_ (by first | omega | (simp; done) | (simp; omega)) _) | (with_reducible refine below_drewN ?_ _) | (with_reducible refine Below.drew ?_)))) hb1 (by first | omega | (simp; done) | (simp; omega)); clear hb1))
                  all_goals go_wp2_with (at_builtin; refine append_sec rfl (.tmp 76) (.tmp 78) rfl w.heap.size _ _ _ (by rfl) (hO1.far (fun k e => Nat.ne_of_lt (hne k e)) _) ⟨s.p, s.q, s.ph, (s.t) % beatI s.ph⟩ (by show Value.slice _ _ _ = _; simp) (by omega) (by simp; omega) ?_; intro v' w2 hO2 hg2; have hB2 : Below w.heap.size w w2 := below_own (by (repeat' (first | (with_reducible exact Below.refl _ _) | (with_reducible assumption) | (with_reducible refine Below.setCell ?_ (by first | omega | (simp; done) | (simp; omega)) _) | (with_reducible refine Below.alloc ?_ (by first | omega | (simp; done) | (simp; omega)) _) | (with_reducible refine below_drewN ?_ _) | (with_reducible refine Below.drew ?_)))) (hO1.far (fun k e => Nat.ne_of_lt (hne k e)) _) (Nat.le_refl _) hg2; clear hg2)
                  all_goals (go_roundw; (case rel => refine ⟨k + 1, by omega, by go_num, ?_, by (repeat' (first | (with_reducible exact Below.refl _ _) | (with_reducible assumption) | (with_reducible refine Below.setCell ?_ (by first | omega | (simp; done) | (simp; omega)) _) | (with_reducible refine Below.alloc ?_ (by first | omega | (simp; done) | (simp; omega)) _) | (with_reducible refine below_drewN ?_ _) | (with_reducible refine Below.drew ?_)))⟩; rw [HSu.out, HSt.out, putS_pos ht]; exact hO2); (case measure => simp [intOf]; omega))
                · go_wp2
                  go_quiet (fail); go_wp2
                  go_region_with (first | (go_at_call 52; (with_reducible refine (beat_any s.ph _ p0 p1).mono ?_); rintro e w1 ⟨rfl, hb1⟩; obtain ⟨hc, hf⟩ := bf hb1 (wr.heap.size + 1) (by first | omega | (simp; done) | (simp; omega)); have hO1 : Own w.heap.size (.slice (some ⟨g, 0, none⟩) (m + 1) cap2) (out) w1 := (by refine Own.below ?_ hb1; (repeat' (first | (with_reducible assumption) | (with_reducible apply Own.alloc) | (with_reducible apply Own.drewN) | (with_reducible apply Own.drew) | (with_reducible refine Own.far ?_ ?_ _) | (exact fun k e => Nat.ne_of_lt (hne k e))))); have hz1 := hb1.size; (try simp only [World.size_alloc, World.size_setCell, World.size_drew, World.heap_drewN] at hz1); have hB1 : Below w.heap.size w w1 := bstep (by (repeat' (first | (with_reducible exact Below.refl _ _) | (with_reducible assumption) | (with_reducible refine Below.setCell ?_ (by first | omega | (simp; done) | (simp; omega)) _) | (with_reducible refine Below.alloc ?_ (by first | omega | (simp; done) | (simp; omega)) _) | (with_reducible refine below_drewN ?_ _) | (with_reducible refine Below.drew ?_)))) hb1 (by first | omega | (simp; done) | (simp; omega)); clear hb1))
                  all_goals (try go_wp2)
                  all_goals (go_roundw; (case rel => refine ⟨k + 1, by omega, by go_num, ?_, by (repeat' (first | (with_reducible exact Below.refl _ _) | (with_reducible assumption) | (with_reducible refine Below.setCell ?_ (by first | omega | (simp; done) | (simp; omega)) _) | (with_reducible refine Below.alloc ?_ (by first | omega | (simp; done) | (simp; omega)) _) | (with_reducible refine below_drewN ?_ _) | (with_reducible refine Below.drew ?_)))⟩; rw [HSu.out, HSt.out, putS_neg (s := s) (by omega)]; exact hO1.far (fun k e => Nat.ne_of_lt (hne k e)) _); (case measure => simp [intOf]; omega))
            · have hpB : (l.p == s.p) = false := by simp [hp]
              clear hsm
              have hT := tmod_beat (s.t) s.ph (by omega)
              obtain ⟨m0, m1⟩ := mod_bd (s.t) (beatI s.ph) e0 e1
              by_cases ht : 0 < (s.t) % beatI s.ph
              · go_wp2
                go_quiet (fail); go_wp2
                go_region_with (first | (go_at_call 52; (with_reducible refine (beat_any s.ph _ p0 p1).mono ?_); rintro e w1 ⟨rfl, hb1⟩; obtain ⟨hc, hf⟩ := bf hb1 (wr.heap.size + 1) (by first | omega | (simp; done) | (simp; omega)); have hO1 : Own w.heap.size (.slice (some ⟨g, 0, none⟩) (m + 1) cap2) (out) w1 := (by refine Own.below ?_ hb1; (repeat' (first | (with_reducible assumption) | (with_reducible apply Own.alloc) | (with_reducible apply Own.drewN) | (with_reducible apply Own.drew) | (with_reducible refine Own.far ?_ ?_ _) | (exact fun k e => Nat.ne_of_lt (hne k e))))); have hz1 := hb1.size; (try simp only [World.size_alloc, World.size_setCell, World.size_drew, World.heap_drewN] at hz1); have hB1 : Below w.heap.size w w1 := bstep (by (repeat' (first | (with_reducible exact Below.refl _ _) | (with_reducible assumption) | (with_reducible refine Below.setCell ?_ (by first | omega | (simp; done) | (simp; omega)) _) | (with_reducible refine Below.alloc ?_ (by first | omega | (simp; done) | (simp; omega)) _) | (with_reducible refine below_drewN ?_ _) | (with_reducible refine Below.drew ?_)))) hb1 (by first | omega | (simp; done) | (simp; omega)); clear hb1))
                all_goals go_wp2_with (at_builtin; refine append_sec rfl (.tmp 76) (.tmp 78) rfl w.heap.size _ _ _ (by rfl) (hO1.far (fun k e => Nat.ne_of_lt (hne k e)) _) ⟨s.p, s.q, s.ph, (s.t) % beatI s.ph⟩ (by show Value.slice _ _ _ = _; simp) (by omega) (by simp; omega) ?_; intro v' w2 hO2 hg2; have hB2 : Below w.heap.size w w2 := below_own (by (repeat' (first | (with_reducible exact Below.refl _ _) | (with_reducible assumption) | (with_reducible refine Below.setCell ?_ (by first | omega | (simp; done) | (simp; omega)) _) | (with_reducible refine Below.alloc ?_ (by first | omega | (simp; done) | (simp; omega)) _) | (with_reducible refine below_drewN ?_ _) | (with_reducible refine Below.drew ?_)))) (hO1.far (fun k e => Nat.ne_of_lt (hne k e)) _) (Nat.le_refl _) hg2; clear hg2)
                all_goals (go_roundw; (case rel => refine ⟨k + 1, by omega, by go_num, ?_, by (repeat' (first | (with_reducible exact Below.refl _ _) | (with_reducible assumption) | (with_reducible refine Below.setCell ?_ (by first | omega | (simp; done) | (simp; omega)) _) | (with_reducible refine Below.alloc ?_ (by first | omega | (simp; done) | (simp; omega)) _) | (with_reducible refine below_drewN ?_ _) | (with_reducible refine Below.drew ?_)))⟩; rw [HSu.out, HSt.out, putS_pos ht]; exact hO2); (case measure => simp [intOf]; omega))
              · go_wp2
                go_quiet (fail); go_wp2
                go_region_with (first | (go_at_call 52; (with_reducible refine (beat_any s.ph _ p0 p1).mono ?_); rintro e w1 ⟨rfl, hb1⟩; obtain ⟨hc, hf⟩ := bf hb1 (wr.heap.size + 1) (by first | omega | (simp; done) | (simp; omega)); have hO1 : Own w.heap.size (.slice (some ⟨g, 0, none⟩) (m + 1) cap2) (out) w1 := (by refine Own.below ?_ hb1; (repeat' (first | (with_reducible assumption) | (with_reducible apply Own.alloc) | (with_reducible apply Own.drewN) | (with_reducible apply Own.drew) | (with_reducible refine Own.far ?_ ?_ _) | (exact fun k e => Nat.ne_of_lt (hne k e))))); have hz1 := hb1.size; (try simp only [World.size_alloc, World.size_setCell, World.size_drew, World.heap_drewN] at hz1); have hB1 : Below w.heap.size w w1 := bstep (by (repeat' (first | (with_reducible exact Below.refl _ _) | (with_reducible assumption) | (with_reducible refine Below.setCell ?_ (by first | omega | (simp; done) | (simp; omega)) _) | (with_reducible refine Below.alloc ?_ (by first | omega | (simp; done) | (simp; omega)) _) | (with_reducible refine below_drewN ?_ _) | (with_reducible refine Below.drew ?_)))) hb1 (by first | omega | (simp; done) | (simp; omega)); clear hb1))
                all_goals (try go_wp2)
                all_goals (go_roundw; (case rel => refine ⟨k + 1, by omega, by go_num, ?_, by (repeat' (first | (with_reducible exact Below.refl _ _) | (with_reducible assumption) | (with_reducible refine Below.setCell ?_ (by first | omega | (simp; done) | (simp; omega)) _) | (with_reducible refine Below.alloc ?_ (by first | omega | (simp; done) | (simp; omega)) _) | (with_reducible refine below_drewN ?_ _) | (with_reducible refine Below.drew ?_)))⟩; rw [HSu.out, HSt.out, putS_neg (s := s) (by omega)]; exact hO1.far (fun k e => Nat.ne_of_lt (hne k e)) _); (case measure => simp [intOf]; omega))
          · have HSt := Lib.hid (step_join (out := out) HL2.out hsm)
            simp only [sameSec, Bool.and_eq_true, decide_eq_true_eq] at hsm
            obtain ⟨hp, hq, hph⟩ := hsm
            rw [hp] at l0
            rw [hq] at l1
            rw [hph] at l2
            clear hp hq hph
            have hO0 := hO.cut m (by rw [← HN.out]; omega)
            rw [HL3.out] at HSt
            have hlt4 : (out.take m).length < 4000000 := by rw [List.length_take]; omega
            have q0 : ∀ (n : Nat) (v : Value), (((wr.alloc (.cells #[.int .i64 s.p, .int .i64 s.q, .int .i64 s.ph, .int .i64 s.t] 24)).drewN n).setCell ⟨wr.heap.size, 3, none⟩ v).cell? ⟨wr.heap.size, 0, none⟩ = some (.int .i64 s.p) := fun n v => keepE wr _ _ n 0 _ v (by decide) rfl
            have q1 : ∀ (n : Nat) (v : Value), (((wr.alloc (.cells #[.int .i64 s.p, .int .i64 s.q, .int .i64 s.ph, .int .i64 s.t] 24)).drewN n).setCell ⟨wr.heap.size, 3, none⟩ v).cell? ⟨wr.heap.size, 1, none⟩ = some (.int .i64 s.q) := fun n v => keepE wr _ _ n 1 _ v (by decide) rfl
            have q2 : ∀ (n : Nat) (v : Value), (((wr.alloc (.cells #[.int .i64 s.p, .int .i64 s.q, .int .i64 s.ph, .int .i64 s.t] 24)).drewN n).setCell ⟨wr.heap.size, 3, none⟩ v).cell? ⟨wr.heap.size, 2, none⟩ = some (.int .i64 s.ph) := fun n v => keepE wr _ _ n 2 _ v (by decide) rfl
            have q3 : ∀ (n : Nat) (v : Value), (((wr.alloc (.cells #[.int .i64 s.p, .int .i64 s.q, .int .i64 s.ph, .int .i64 s.t] 24)).drewN n).setCell ⟨wr.heap.size, 3, none⟩ v).cell? ⟨wr.heap.size, 3, none⟩ = some v := fun n v => keepE3 wr _ _ n _ v rfl
            have hT := tmod_beat (s.t + l.t) s.ph (by omega)
            obtain ⟨m0, m1⟩ := mod_bd (s.t + l.t) (beatI s.ph) e0 e1
            by_cases ht : 0 < (s.t + l.t) % beatI s.ph
            · go_wp2
              go_quiet (fail); go_wp2; go_region; (try go_wp2)
              go_region_with (first | (go_at_call 52; (with_reducible refine (beat_any s.ph _ p0 p1).mono ?_); rintro e w1 ⟨rfl, hb1⟩; obtain ⟨hc, hf⟩ := bf hb1 (wr.heap.size + 1) (by first | omega | (simp; done) | (simp; omega)); have hO1 : Own w.heap.size (.slice (some ⟨g, 0, none⟩) m cap2) (out.take m) w1 := (by refine Own.below ?_ hb1; (repeat' (first | (with_reducible assumption) | (with_reducible apply Own.alloc) | (with_reducible apply Own.drewN) | (with_reducible apply Own.drew) | (with_reducible refine Own.far ?_ ?_ _) | (exact fun k e => Nat.ne_of_lt (hne k e))))); have hz1 := hb1.size; (try simp only [World.size_alloc, World.size_setCell, World.size_drew, World.heap_drewN] at hz1); have hB1 : Below w.heap.size w w1 := bstep (by (repeat' (first | (with_reducible exact Below.refl _ _) | (with_reducible assumption) | (with_reducible refine Below.setCell ?_ (by first | omega | (simp; done) | (simp; omega)) _) | (with_reducible refine Below.alloc ?_ (by first | omega | (simp; done) | (simp; omega)) _) | (with_reducible refine below_drewN ?_ _) | (with_reducible refine Below.drew ?_)))) hb1 (by first | omega | (simp; done) | (simp; omega)); clear hb1))
              all_goals go_wp2_with (at_builtin; refine append_sec rfl (.tmp 76) (.tmp 78) rfl w.heap.size _ _ _ (by rfl) (hO1.far (fun k e => Nat.ne_of_lt (hne k e)) _) ⟨s.p, s.q, s.ph, (s.t + l.t) % beatI s.ph⟩ (by show Value.slice _ _ _ = _; simp) (by omega) (by simp; omega) ?_; intro v' w2 hO2 hg2; have hB2 : Below w.heap.size w w2 := below_own (by (repeat' (first | (with_reducible exact Below.refl _ _) | (with_reducible assumption) | (with_reducible refine Below.setCell ?_ (by first | omega | (simp; done) | (simp; omega)) _) | (with_reducible refine Below.alloc ?_ (by first | omega | (simp; done) | (simp; omega)) _) | (with_reducible refine below_drewN ?_ _) | (with_reducible refine Below.drew ?_)))) (hO1.far (fun k e => Nat.ne_of_lt (hne k e)) _) (Nat.le_refl _) hg2; clear hg2)
              all_goals (go_roundw; (case rel => refine ⟨k + 1, by omega, by go_num, ?_, by (repeat' (first | (with_reducible exact Below.refl _ _) | (with_reducible assumption) | (with_reducible refine Below.setCell ?_ (by first | omega | (simp; done) | (simp; omega)) _) | (with_reducible refine Below.alloc ?_ (by first | omega | (simp; done) | (simp; omega)) _) | (with_reducible refine below_drewN ?_ _) | (with_reducible refine Below.drew ?_)))⟩; rw [HSu.out, HSt.out, putS_pos (s := { s with t := s.t + l.t }) ht]; exact hO2); (case measure => simp [intOf]; omega))
            · go_wp2
              go_quiet (fail); go_wp2; go_region; (try go_wp2)
              go_region_with (first | (go_at_call 52; (with_reducible refine (beat_any s.ph _ p0 p1).mono ?_); rintro e w1 ⟨rfl, hb1⟩; obtain ⟨hc, hf⟩ := bf hb1 (wr.heap.size + 1) (by first | omega | (simp; done) | (simp; omega)); have hO1 : Own w.heap.size (.slice (some ⟨g, 0, none⟩) m cap2) (out.take m) w1 := (by refine Own.below ?_ hb1; (repeat' (first | (with_reducible assumption) | (with_reducible apply Own.alloc) | (with_reducible apply Own.drewN) | (with_reducible apply Own.drew) | (with_reducible refine Own.far ?_ ?_ _) | (exact fun k e => Nat.ne_of_lt (hne k e))))); have hz1 := hb1.size; (try simp only [World.size_alloc, World.size_setCell, World.size_drew, World.heap_drewN] at hz1); have hB1 : Below w.heap.size w w1 := bstep (by (repeat' (first | (with_reducible exact Below.refl _ _) | (with_reducible assumption) | (with_reducible refine Below.setCell ?_ (by first | omega | (simp; done) | (simp; omega)) _) | (with_reducible refine Below.alloc ?_ (by first | omega | (simp; done) | (simp; omega)) _) | (with_reducible refine below_drewN ?_ _) | (with_reducible refine Below.drew ?_)))) hb1 (by first | omega | (simp; done) | (simp; omega)); clear hb1))
              all_goals (try go_wp2)
              all_goals (go_roundw; (case rel => refine ⟨k + 1, by omega, by go_num, ?_, by (repeat' (first | (with_reducible exact Below.refl _ _) | (with_reducible assumption) | (with_reducible refine Below.setCell ?_ (by first | omega | (simp; done) | (simp; omega)) _) | (with_reducible refine Below.alloc ?_ (by first | omega | (simp; done) | (simp; omega)) _) | (with_reducible refine below_drewN ?_ _) | (with_reducible refine Below.drew ?_)))⟩; rw [HSu.out, HSt.out, putS_neg (s := { s with t := s.t + l.t }) (by show ¬ 0 < (s.t + l.t) % beatI s.ph; omega)]; exact hO1.far (fun k e => Nat.ne_of_lt (hne k e)) _); (case measure => simp [intOf]; omega))
      · go_wp2
        go_ret2
        have e : k = len := by omega
        subst e
        exact ⟨_, rfl, by simp only [shortI, hf, if_true, HXL.out]; exact hO, hb⟩
end Go.Proofs.YtmaifiakjlbooaaDoor
