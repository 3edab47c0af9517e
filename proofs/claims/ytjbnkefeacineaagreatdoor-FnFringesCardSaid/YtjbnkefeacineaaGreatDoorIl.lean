/-
  The walks of the searches for the greatest and the least fraction, of PortBright and of PortDark, program and reference.
-/
import Derived.Test.YtjbnkefeacineaaGreatDoorJe
import Derived.Test.YtjbnkefeacineaaGreatDoorJf
namespace Go.Proofs.YtjbnkefeacineaaGreatDoor
set_option linter.unusedSimpArgs false
set_option linter.unusedVariables false
open Go.RowKit
attribute [local go_sem ↓] Go.wp_at_zero Go.wp_at_succ
theorem atF_of {fs : List Fr} {k : Nat} {s : Fr} (h : fs[k]? = some s) : atF fs k = s := by
  unfold atF
  rw [List.getD, h]
  rfl
theorem compare_n (a b : Fr) (n : Int) (w : World) (ha : realOk a = true) (hb : realOk b = true) (e : Hid (cmpV a b = n)) :
    Calls Tryz.prog 16 #[frv a, frv b] w fun e w' => e = .returned (.tuple #[.int .i64 n, .bool true]) ∧ Below w.heap.size w w' := by
  have h := compare_any a b w
  rw [cmpI_ok ha hb, e.out] at h
  exact h
theorem scompare_n (a b : Fr) (n : Int) (w : World) (ha : realOk a = true) (hb : realOk b = true) (e : Hid (cmpV a b = n)) :
    Calls Tryz.prog 81 #[frv a, frv b] w fun e w' => e = .returned (.tuple #[.int .i64 n, .bool true]) ∧ Below w.heap.size w w' := by
  have h := scompare_any a b w
  rw [cmpI_ok ha hb, e.out] at h
  exact h
theorem cmpV_bd (a b : Fr) : -1 ≤ cmpV a b ∧ cmpV a b ≤ 1 := by
  unfold cmpV cmpS
  split
  · omega
  · split <;> omega
/-- Two fractions of a list, to be read in every later world. -/
theorem two_at {A : Option Addr} {len cap : Nat} {fs : List Fr} {w W : World} (h : Frs A len cap fs w) (hB : Below w.heap.size w W) {i j : Nat} (hi : i < len) (hj : j < len) :
    ∃ (bb off : Nat) (s t : Fr), A = some ⟨bb, off, none⟩ ∧ fs[i]? = some s ∧ fs[j]? = some t ∧ bb < W.heap.size ∧ ∀ W', Below W.heap.size W W' → FAt W' bb (off + i * 3) s ∧ FAt W' bb (off + j * 3) t := by
  obtain ⟨h1, h2, h3, h4⟩ := h
  obtain ⟨bb, off, e, hbb, hc⟩ := h4 (by omega)
  have hs : fs[i]? = some (fs[i]'(by omega)) := List.getElem?_eq_getElem (by omega)
  have ht : fs[j]? = some (fs[j]'(by omega)) := List.getElem?_eq_getElem (by omega)
  have hbW : bb < W.heap.size := Nat.lt_of_lt_of_le hbb hB.size
  exact ⟨bb, off, _, _, e, hs, ht, hbW, fun W' hb => ⟨((hc i _ hs).below hB hbb).below hb hbW, ((hc j _ ht).below hB hbb).below hb hbW⟩⟩
theorem real_at {fs : List Fr} (h : ∀ f ∈ fs, realOk f = true) {k : Nat} {s : Fr} (hk : fs[k]? = some s) : realOk s = true := h s (List.mem_of_getElem? hk)
set_option maxRecDepth 100000 in
set_option maxHeartbeats 8000000 in
theorem greatest_any (A : Option Addr) (cap : Nat) (fs : List Fr) (w : World) (h : Frs A 4 cap fs w) (hr : ∀ f ∈ fs, realOk f = true) :
    Calls Tryz.prog 46 #[.slice A 4 cap] w fun e w' => e = .returned (.int .i64 (grt fs 4 : Nat)) ∧ Below w.heap.size w w' := by
  have hcap := h.2.1
  have hcm := h.2.2.1
  have HR := Lib.hid hr
  have HF := Lib.hid h
  clear hr h
  go_enter Tryz.func46, Tryz.ntmps46
  go_upto_region 3 with fail
  go_loopw [3, 9] (fun bv iv wr => ∃ (k j : Nat), k ≤ 4 ∧ iv = .int .i64 k ∧ bv = .int .i64 j ∧ Hid (grt fs k = j) ∧ Below w.heap.size w wr) (fun _ iv _ => 4 - (intOf iv).toNat)
  case atStart => exact ⟨0, 0, by omega, rfl, rfl, Lib.hid rfl, Below.refl _ _⟩
  case round =>
    obtain ⟨k, j, hk, rfl, rfl, hj, hB⟩ := hrel
    have hzw := hB.size
    have hkw : IntKind.i64.wrap ((k : Int) + 1) = (k : Int) + 1 := IntWalk.i64_in _ (by omega)
    by_cases hkl : k < 4
    · have hj4 : j < 4 := by have h1 := grt_lt fs k; rw [hj.out] at h1; omega
      obtain ⟨bb, off, s, t, rfl, hs, ht, hbb, hc⟩ := two_at HF.out hB hkl hj4
      have hki : (k : Int) < 4 := by omega
      have hji : (j : Int) < 4 := by omega
      have hrs := real_at HR.out hs
      have hrt := real_at HR.out ht
      obtain ⟨n, hn⟩ : ∃ n, cmpV s t = n := ⟨_, rfl⟩
      have HN := Lib.hid hn
      have hg : grt fs (k + 1) = if 0 < n then k else j := by rw [grt, atF_of hs, hj.out, atF_of ht, hn]
      have HG := Lib.hid hg
      have HC := Lib.hid hc
      have hnb := cmpV_bd s t
      rw [hn] at hnb
      obtain ⟨c0, c1⟩ := hc wr (Below.refl _ _)
      clear hs ht hn hg hc c0 c1
      go_upto_region 5 with fail
      go_cut [5, 6] from 12 to 23 (fun s5 s6 wx => s5 = .int .i64 n ∧ s6 = .bool true ∧ Below wr.heap.size wr wx)
      case first =>
        have HS : Hid (∀ W', Below wr.heap.size wr W' → (fun w' => w'.cell? ⟨bb, off + k * 3, none⟩ = some (.int .i64 s.re) ∧ w'.cell? ⟨bb, off + k * 3 + 1, none⟩ = some (.int .i64 s.im) ∧ w'.cell? ⟨bb, off + k * 3 + 2, none⟩ = some (.int .i64 s.den) ∧ w'.cell? ⟨bb, off + j * 3, none⟩ = some (.int .i64 t.re) ∧ w'.cell? ⟨bb, off + j * 3 + 1, none⟩ = some (.int .i64 t.im) ∧ w'.cell? ⟨bb, off + j * 3 + 2, none⟩ = some (.int .i64 t.den)) W') := Lib.hid (fun W' hb => by
          obtain ⟨⟨s0, s1, s2⟩, t0, t1, t2⟩ := HC.out W' hb
          exact ⟨s0, s1, s2, t0, t1, t2⟩)
        go_region_held3 (fun w' => w'.cell? ⟨bb, off + k * 3, none⟩ = some (.int .i64 s.re) ∧ w'.cell? ⟨bb, off + k * 3 + 1, none⟩ = some (.int .i64 s.im) ∧ w'.cell? ⟨bb, off + k * 3 + 2, none⟩ = some (.int .i64 s.den) ∧ w'.cell? ⟨bb, off + j * 3, none⟩ = some (.int .i64 t.re) ∧ w'.cell? ⟨bb, off + j * 3 + 1, none⟩ = some (.int .i64 t.im) ∧ w'.cell? ⟨bb, off + j * 3 + 2, none⟩ = some (.int .i64 t.den)) (((refine HS.out _ ?_); ((repeat' (first | (with_reducible exact Below.refl _ _) | (with_reducible assumption) | (with_reducible refine Below.setCell ?_ (by first | omega | (simp; done) | (simp; omega)) _) | (with_reducible refine Below.alloc ?_ (by first | omega | (simp; done) | (simp; omega)) _) | (with_reducible refine below_drewN ?_ _) | (with_reducible refine Below.drew ?_)))))) (first | (go_at_call 16; (with_reducible refine (compare_n s t n _ hrs hrt HN).mono ?_); rintro e w1 ⟨rfl, hb⟩; obtain ⟨hc, hf⟩ := bf hb (wr.heap.size) side_; have hs := hb.size; (try simp only [World.size_alloc, World.size_setCell, World.size_drew, World.heap_drewN] at hs); have hl : wr.heap.size ≤ w1.heap.size := (by omega); obtain ⟨B, hBe, hBl, hc2, hf2⟩ := bfA hb; (try simp only [World.size_alloc, World.size_setCell, World.size_drew, World.heap_drewN] at hBe); have hB : Below wr.heap.size wr w1 := bstep (by exact below_) hb side_; clear hs hb))
        all_goals (go_wp2; go_meet; exact ⟨rfl, rfl, by exact below_⟩)
      case rest =>
        obtain ⟨rfl, rfl, hb⟩ := hcut
        have hB2 := bstep hB hb hB.size
        have hzc := hB2.size
        clear hb hrs hrt HC
        by_cases h0 : 0 < n
        · go_wp2
          go_roundw
          case rel => exact ⟨k + 1, k, by omega, by go_num, rfl, Lib.hid (by rw [HG.out, if_pos h0]), hB2⟩
          case measure => simp [intOf]; omega
        · go_wp2
          go_roundw
          case rel => exact ⟨k + 1, j, by omega, by go_num, rfl, Lib.hid (by rw [HG.out, if_neg h0]), hB2⟩
          case measure => simp [intOf]; omega
    · obtain rfl : k = 4 := by omega
      go_wp2
      go_ret
      exact ⟨by rw [hj.out]; rfl, by exact below_⟩
set_option maxRecDepth 100000 in
set_option maxHeartbeats 8000000 in
theorem ends_any (A : Option Addr) (cap : Nat) (fs : List Fr) (w : World) (h : Frs A 4 cap fs w) (hr : ∀ f ∈ fs, realOk f = true) :
    Calls Tryz.prog 47 #[.slice A 4 cap] w fun e w' => e = .returned (.tuple #[.int .i64 (grt fs 4 : Nat), .int .i64 (lst fs 4 : Nat)]) ∧ Below w.heap.size w w' := by
  have hcap := h.2.1
  have hcm := h.2.2.1
  have HR := Lib.hid hr
  have HF := Lib.hid h
  clear hr h
  go_enter Tryz.func47, Tryz.ntmps47
  go_upto_region 4 with fail
  go_loopw [4, 5, 6] (fun bv lv iv wr => ∃ (k j l : Nat), k ≤ 4 ∧ 1 ≤ k ∧ iv = .int .i64 k ∧ bv = .int .i64 j ∧ lv = .int .i64 l ∧ Hid (grt fs k = j) ∧ Hid (lst fs k = l) ∧ Below w.heap.size w wr) (fun _ _ iv _ => 4 - (intOf iv).toNat)
  case atStart => exact ⟨1, 0, 0, by omega, by omega, rfl, rfl, rfl, Lib.hid (by show (if _ then _ else _) = _; split <;> rfl), Lib.hid (by show (if _ then _ else _) = _; split <;> rfl), Below.refl _ _⟩
  case round =>
    obtain ⟨k, j, l, hk, hk1, rfl, rfl, rfl, hj, hl, hB⟩ := hrel
    have hzw := hB.size
    have hkw : IntKind.i64.wrap ((k : Int) + 1) = (k : Int) + 1 := IntWalk.i64_in _ (by omega)
    by_cases hkl : k < 4
    · have hj4 : j < 4 := by have h1 := grt_lt fs k; rw [hj.out] at h1; omega
      have hl4 : l < 4 := by have h1 := lst_lt fs k; rw [hl.out] at h1; omega
      obtain ⟨bb, off, s, t, rfl, hs, ht, hbb, hc⟩ := two_at HF.out hB hkl hj4
      have hki : (k : Int) < 4 := by omega
      have hji : (j : Int) < 4 := by omega
      have hrs := real_at HR.out hs
      have hrt := real_at HR.out ht
      obtain ⟨n, hn⟩ : ∃ n, cmpV s t = n := ⟨_, rfl⟩
      have HN := Lib.hid hn
      have hg : grt fs (k + 1) = if 0 < n then k else j := by rw [grt, atF_of hs, hj.out, atF_of ht, hn]
      have HG := Lib.hid hg
      have HC := Lib.hid hc
      have HSK := Lib.hid hs
      clear hs ht hn hg hc
      go_upto_region 6 with fail
      go_cut [7, 8] from 17 to 28 (fun s5 s6 wx => s5 = .int .i64 n ∧ s6 = .bool true ∧ Below wr.heap.size wr wx)
      case first =>
        have HS : Hid (∀ W', Below wr.heap.size wr W' → (fun w' => w'.cell? ⟨bb, off + k * 3, none⟩ = some (.int .i64 s.re) ∧ w'.cell? ⟨bb, off + k * 3 + 1, none⟩ = some (.int .i64 s.im) ∧ w'.cell? ⟨bb, off + k * 3 + 2, none⟩ = some (.int .i64 s.den) ∧ w'.cell? ⟨bb, off + j * 3, none⟩ = some (.int .i64 t.re) ∧ w'.cell? ⟨bb, off + j * 3 + 1, none⟩ = some (.int .i64 t.im) ∧ w'.cell? ⟨bb, off + j * 3 + 2, none⟩ = some (.int .i64 t.den)) W') := Lib.hid (fun W' hb => by
          obtain ⟨⟨s0, s1, s2⟩, t0, t1, t2⟩ := HC.out W' hb
          exact ⟨s0, s1, s2, t0, t1, t2⟩)
        go_region_held3 (fun w' => w'.cell? ⟨bb, off + k * 3, none⟩ = some (.int .i64 s.re) ∧ w'.cell? ⟨bb, off + k * 3 + 1, none⟩ = some (.int .i64 s.im) ∧ w'.cell? ⟨bb, off + k * 3 + 2, none⟩ = some (.int .i64 s.den) ∧ w'.cell? ⟨bb, off + j * 3, none⟩ = some (.int .i64 t.re) ∧ w'.cell? ⟨bb, off + j * 3 + 1, none⟩ = some (.int .i64 t.im) ∧ w'.cell? ⟨bb, off + j * 3 + 2, none⟩ = some (.int .i64 t.den)) (((refine HS.out _ ?_); ((repeat' (first | (with_reducible exact Below.refl _ _) | (with_reducible assumption) | (with_reducible refine Below.setCell ?_ (by first | omega | (simp; done) | (simp; omega)) _) | (with_reducible refine Below.alloc ?_ (by first | omega | (simp; done) | (simp; omega)) _) | (with_reducible refine below_drewN ?_ _) | (with_reducible refine Below.drew ?_)))))) (first | (go_at_call 81; (with_reducible refine (scompare_n s t n _ hrs hrt HN).mono ?_); rintro e w1 ⟨rfl, hb⟩; obtain ⟨hc, hf⟩ := bf hb (wr.heap.size) side_; have hs := hb.size; (try simp only [World.size_alloc, World.size_setCell, World.size_drew, World.heap_drewN] at hs); have hl : wr.heap.size ≤ w1.heap.size := (by omega); obtain ⟨B, hBe, hBl, hc2, hf2⟩ := bfA hb; (try simp only [World.size_alloc, World.size_setCell, World.size_drew, World.heap_drewN] at hBe); have hB : Below wr.heap.size wr w1 := bstep (by exact below_) hb side_; clear hs hb))
        all_goals (go_wp2; go_meet; exact ⟨rfl, rfl, by exact below_⟩)
      case rest =>
        obtain ⟨rfl, rfl, hb⟩ := hcut
        have hB2 := bstep hB hb hB.size
        have hzc := hB2.size
        clear hb hrt HC
        obtain ⟨bb2, off2, s2, u, eA, hs2, hu, hbb2, hc⟩ := two_at HF.out hB2 hkl hl4
        simp only [Option.some.injEq, Addr.mk.injEq, and_true] at eA
        obtain ⟨rfl, rfl⟩ := eA
        obtain rfl : s = s2 := by have := HSK.out; rw [hs2] at this; exact (Option.some.inj this).symm
        have hru := real_at HR.out hu
        have hli : (l : Int) < 4 := by omega
        obtain ⟨m, hm⟩ : ∃ n, cmpV s u = n := ⟨_, rfl⟩
        have HM := Lib.hid hm
        have hgl : lst fs (k + 1) = if m < 0 then k else l := by rw [lst, atF_of hs2, hl.out, atF_of hu, hm]
        have HL := Lib.hid hgl
        have HC := Lib.hid hc
        clear hs2 hu hm hgl hc
        rename World => wo
        go_upto_region 7 with fail
        go_cut [9, 10] from 29 to 40 (fun s5 s6 wx => s5 = .int .i64 m ∧ s6 = .bool true ∧ Below wo.heap.size wo wx)
        case first =>
          have HS : Hid (∀ W', Below wo.heap.size wo W' → (fun w' => w'.cell? ⟨bb, off + k * 3, none⟩ = some (.int .i64 s.re) ∧ w'.cell? ⟨bb, off + k * 3 + 1, none⟩ = some (.int .i64 s.im) ∧ w'.cell? ⟨bb, off + k * 3 + 2, none⟩ = some (.int .i64 s.den) ∧ w'.cell? ⟨bb, off + l * 3, none⟩ = some (.int .i64 u.re) ∧ w'.cell? ⟨bb, off + l * 3 + 1, none⟩ = some (.int .i64 u.im) ∧ w'.cell? ⟨bb, off + l * 3 + 2, none⟩ = some (.int .i64 u.den)) W') := Lib.hid (fun W' hb => by
            obtain ⟨⟨s0, s1, s2⟩, t0, t1, t2⟩ := HC.out W' hb
            exact ⟨s0, s1, s2, t0, t1, t2⟩)
          go_region_held3 (fun w' => w'.cell? ⟨bb, off + k * 3, none⟩ = some (.int .i64 s.re) ∧ w'.cell? ⟨bb, off + k * 3 + 1, none⟩ = some (.int .i64 s.im) ∧ w'.cell? ⟨bb, off + k * 3 + 2, none⟩ = some (.int .i64 s.den) ∧ w'.cell? ⟨bb, off + l * 3, none⟩ = some (.int .i64 u.re) ∧ w'.cell? ⟨bb, off + l * 3 + 1, none⟩ = some (.int .i64 u.im) ∧ w'.cell? ⟨bb, off + l * 3 + 2, none⟩ = some (.int .i64 u.den)) (((refine HS.out _ ?_); ((repeat' (first | (with_reducible exact Below.refl _ _) | (with_reducible assumption) | (with_reducible refine Below.setCell ?_ (by first | omega | (simp; done) | (simp; omega)) _) | (with_reducible refine Below.alloc ?_ (by first | omega | (simp; done) | (simp; omega)) _) | (with_reducible refine below_drewN ?_ _) | (with_reducible refine Below.drew ?_)))))) (first | (go_at_call 81; (with_reducible refine (scompare_n s u m _ hrs hru HM).mono ?_); rintro e w1 ⟨rfl, hb⟩; obtain ⟨hc, hf⟩ := bf hb (wo.heap.size) side_; have hs := hb.size; (try simp only [World.size_alloc, World.size_setCell, World.size_drew, World.heap_drewN] at hs); have hl : wo.heap.size ≤ w1.heap.size := (by omega); obtain ⟨B, hBe, hBl, hc2, hf2⟩ := bfA hb; (try simp only [World.size_alloc, World.size_setCell, World.size_drew, World.heap_drewN] at hBe); have hB : Below wo.heap.size wo w1 := bstep (by exact below_) hb side_; clear hs hb))
          all_goals (go_wp2; go_meet; exact ⟨rfl, rfl, by exact below_⟩)
        case rest =>
          obtain ⟨rfl, rfl, hb⟩ := hcut
          have hB3 := bstep hB2 hb hB2.size
          have hzd := hB3.size
          clear hb hrs hru HC
          have HG2 : Hid (grt fs (k + 1) = if 0 < n then k else j) := HG
          by_cases h0 : 0 < n
          · by_cases h1 : m < 0
            · go_wp2
              go_roundw
              case rel => exact ⟨k + 1, k, k, by omega, by omega, by go_num, rfl, rfl, Lib.hid (by rw [HG.out, if_pos h0]), Lib.hid (by rw [HL.out, if_pos h1]), hB3⟩
              case measure => simp [intOf]; omega
            · go_wp2
              go_roundw
              case rel => exact ⟨k + 1, k, l, by omega, by omega, by go_num, rfl, rfl, Lib.hid (by rw [HG.out, if_pos h0]), Lib.hid (by rw [HL.out, if_neg h1]), hB3⟩
              case measure => simp [intOf]; omega
          · by_cases h1 : m < 0
            · go_wp2
              go_roundw
              case rel => exact ⟨k + 1, j, k, by omega, by omega, by go_num, rfl, rfl, Lib.hid (by rw [HG.out, if_neg h0]), Lib.hid (by rw [HL.out, if_pos h1]), hB3⟩
              case measure => simp [intOf]; omega
            · go_wp2
              go_roundw
              case rel => exact ⟨k + 1, j, l, by omega, by omega, by go_num, rfl, rfl, Lib.hid (by rw [HG.out, if_neg h0]), Lib.hid (by rw [HL.out, if_neg h1]), hB3⟩
              case measure => simp [intOf]; omega
    · obtain rfl : k = 4 := by omega
      go_wp2
      go_ret2
      exact ⟨by rw [hj.out, hl.out]; rfl, by exact below_⟩
/-- The place of the greatest fringe. -/
def brI (a b : List UInt8) (v : Jn) : Nat := match fringesI a b v with
  | some fs => grt fs 4
  | none => 0
set_option maxRecDepth 100000 in
set_option maxHeartbeats 8000000 in
theorem sbright_any (a b : ByteArray) (v : Jn) (w : World) :
    Calls Tryz.prog 14 #[.string a, .string b, jnv v] w fun e w' => e = .returned (.tuple #[.int .i64 (brI a.data.toList b.data.toList v : Nat), .bool (fringesI a.data.toList b.data.toList v).isSome]) ∧ Below w.heap.size w w' := by
  obtain ⟨R, hR⟩ : ∃ R, fringesI a.data.toList b.data.toList v = R := ⟨_, rfl⟩
  obtain ⟨N, hN⟩ : ∃ N, brI a.data.toList b.data.toList v = N := ⟨_, rfl⟩
  obtain ⟨ok, hok⟩ : ∃ ok, R.isSome = ok := ⟨_, rfl⟩
  rw [hN, hR, hok]
  have HR := Lib.hid hR
  have HN := Lib.hid hN
  have HOK := Lib.hid hok
  clear hN hR hok
  obtain ⟨W0, hW0, hQ⟩ : ∃ W, W = w.alloc (.cells #[.int .i64 v.x.re, .int .i64 v.x.im, .int .i64 v.x.den, .int .i64 v.y.re, .int .i64 v.y.im, .int .i64 v.y.den] 26) ∧ BW w [(w.heap.size, jc v, 26)] W := ⟨_, rfl, BW.one w (jc v) 26⟩
  obtain ⟨j0, j1, j2, j3, j4, j5⟩ := (blk_j (a := v) (hQ.at (b := w.heap.size) (cs := jc v) (t := 26) (by simp))).1
  go_enter Tryz.func14, Tryz.ntmps14
  go_upto_region 1 with fail
  rw [← hW0]
  clear hW0
  have hfr := sfringes_any a b v W0
  rw [HR.out, HOK.out] at hfr
  go_upto_region 2 with (go_at_call 41; (with_reducible refine hfr.mono ?_); rintro e w1 ⟨lv, rfl, hO, hb⟩)
  have hB := bstep hQ.B hb hQ.B.size
  clear hfr hb j0 j1 j2 j3 j4 j5 hQ
  cases ok
  · have he : N = 0 := by
      rw [← HN.out, brI, HR.out]
      have := HOK.out
      cases R with
      | none => rfl
      | some fs => cases this
    subst he
    clear hO
    go_wp2
    go_ret2
    exact ⟨rfl, by exact below_⟩
  · obtain ⟨fs, hfs⟩ := Option.isSome_iff_exists.1 HOK.out
    subst hfs
    obtain ⟨hl, hrr⟩ := fringes_real HR.out
    have HRR := Lib.hid (fun f hf => (hrr f hf).1)
    obtain ⟨A1, c1, hv1, hF1⟩ := hO.frs
    subst hv1
    have he : N = grt fs 4 := by rw [← HN.out, brI, HR.out]
    simp only [Option.getD_some] at hF1
    rw [hl] at hF1
    have HEN := Lib.hid he
    have hlen : ((some fs : Option (List Fr)).getD []).length = 4 := hl
    rw [hlen]
    clear he hrr hO hlen
    go_wp2_with (go_at_call 47; (with_reducible refine (ends_any A1 c1 fs _ hF1 HRR.out).mono ?_); rintro e w2 ⟨rfl, hb⟩; have hB2 := bstep hB hb hB.size; clear hb)
    go_ret2
    exact ⟨by rw [HEN.out]; rfl, by exact below_⟩
set_option maxRecDepth 100000 in
set_option maxHeartbeats 8000000 in
theorem bright_any (a b : ByteArray) (v : Jn) (w : World) (ha : a.size ≤ 1048576) (hb2 : b.size ≤ 1048576) (hGP : GP w) :
    Calls Tryz.prog 13 #[.string a, .string b, jnv v] w fun e w' => e = .returned (.tuple #[.int .i64 (brI a.data.toList b.data.toList v : Nat), .bool (fringesI a.data.toList b.data.toList v).isSome]) ∧ Below w.heap.size w w' := by
  obtain ⟨R, hR⟩ : ∃ R, fringesI a.data.toList b.data.toList v = R := ⟨_, rfl⟩
  obtain ⟨N, hN⟩ : ∃ N, brI a.data.toList b.data.toList v = N := ⟨_, rfl⟩
  obtain ⟨ok, hok⟩ : ∃ ok, R.isSome = ok := ⟨_, rfl⟩
  rw [hN, hR, hok]
  have HR := Lib.hid hR
  have HN := Lib.hid hN
  have HOK := Lib.hid hok
  clear hN hR hok
  obtain ⟨W0, hW0, hQ⟩ : ∃ W, W = w.alloc (.cells #[.int .i64 v.x.re, .int .i64 v.x.im, .int .i64 v.x.den, .int .i64 v.y.re, .int .i64 v.y.im, .int .i64 v.y.den] 26) ∧ BW w [(w.heap.size, jc v, 26)] W := ⟨_, rfl, BW.one w (jc v) 26⟩
  obtain ⟨j0, j1, j2, j3, j4, j5⟩ := (blk_j (a := v) (hQ.at (b := w.heap.size) (cs := jc v) (t := 26) (by simp))).1
  go_enter Tryz.func13, Tryz.ntmps13
  go_upto_region 1 with fail
  rw [← hW0]
  clear hW0
  have hfr := fringes_any a b v W0 ha hb2 (hGP.below hQ.B)
  rw [HR.out, HOK.out] at hfr
  go_upto_region 2 with (go_at_call 15; (with_reducible refine hfr.mono ?_); rintro e w1 ⟨lv, rfl, hO, hb⟩)
  have hB := bstep hQ.B hb hQ.B.size
  clear hfr hb j0 j1 j2 j3 j4 j5 hQ
  cases ok
  · have he : N = 0 := by
      rw [← HN.out, brI, HR.out]
      have := HOK.out
      cases R with
      | none => rfl
      | some fs => cases this
    subst he
    clear hO
    go_wp2
    go_ret2
    exact ⟨rfl, by exact below_⟩
  · obtain ⟨fs, hfs⟩ := Option.isSome_iff_exists.1 HOK.out
    subst hfs
    obtain ⟨hl, hrr⟩ := fringes_real HR.out
    have HRR := Lib.hid (fun f hf => (hrr f hf).1)
    obtain ⟨A1, c1, hv1, hF1⟩ := hO.frs
    subst hv1
    have he : N = grt fs 4 := by rw [← HN.out, brI, HR.out]
    simp only [Option.getD_some] at hF1
    rw [hl] at hF1
    have HEN := Lib.hid he
    have hlen : ((some fs : Option (List Fr)).getD []).length = 4 := hl
    rw [hlen]
    clear he hrr hO hlen
    go_wp2_with (go_at_call 46; (with_reducible refine (greatest_any A1 c1 fs _ hF1 HRR.out).mono ?_); rintro e w2 ⟨rfl, hb⟩; have hB2 := bstep hB hb hB.size; clear hb)
    go_ret2
    exact ⟨by rw [HEN.out]; rfl, by exact below_⟩
set_option maxRecDepth 100000 in
set_option maxHeartbeats 8000000 in
theorem sdark_any (a b : ByteArray) (v : Jn) (w : World) :
    Calls Tryz.prog 39 #[.string a, .string b, jnv v] w fun e w' => e = .returned (.bool (darkI a.data.toList b.data.toList v)) ∧ Below w.heap.size w w' := by
  obtain ⟨R, hR⟩ : ∃ R, fringesI a.data.toList b.data.toList v = R := ⟨_, rfl⟩
  obtain ⟨N, hN⟩ : ∃ N, darkI a.data.toList b.data.toList v = N := ⟨_, rfl⟩
  obtain ⟨ok, hok⟩ : ∃ ok, R.isSome = ok := ⟨_, rfl⟩
  rw [hN]
  have HR := Lib.hid hR
  have HN := Lib.hid hN
  have HOK := Lib.hid hok
  clear hN hR hok
  obtain ⟨W0, hW0, hQ⟩ : ∃ W, W = w.alloc (.cells #[.int .i64 v.x.re, .int .i64 v.x.im, .int .i64 v.x.den, .int .i64 v.y.re, .int .i64 v.y.im, .int .i64 v.y.den] 26) ∧ BW w [(w.heap.size, jc v, 26)] W := ⟨_, rfl, BW.one w (jc v) 26⟩
  obtain ⟨j0, j1, j2, j3, j4, j5⟩ := (blk_j (a := v) (hQ.at (b := w.heap.size) (cs := jc v) (t := 26) (by simp))).1
  go_enter Tryz.func39, Tryz.ntmps39
  go_upto_region 1 with fail
  rw [← hW0]
  clear hW0
  have hfr := sfringes_any a b v W0
  rw [HR.out, HOK.out] at hfr
  go_upto_region 2 with (go_at_call 41; (with_reducible refine hfr.mono ?_); rintro e w1 ⟨lv, rfl, hO, hb⟩)
  have hB := bstep hQ.B hb hQ.B.size
  clear hfr hb j0 j1 j2 j3 j4 j5 hQ
  cases R with
  | none =>
    have he : N = false := by rw [← HN.out, darkI, HR.out]
    have HE := Lib.hid he
    obtain rfl : false = ok := HOK.out
    simp only [Option.getD_none] at hO
    obtain ⟨A1, c1, hv1, hF1⟩ := hO.frs
    subst hv1
    simp only [List.length_nil]
    clear he hO hF1
    go_upto_region 3 with fail
    go_loopw [9] (fun iv wr => iv = .int .i64 0 ∧ wr = w1) (fun _ _ => 0)
    case atStart => exact ⟨rfl, rfl⟩
    case round =>
      obtain ⟨rfl, rfl⟩ := hrel
      go_wp2
      go_ret
      exact ⟨by rw [HE.out]; rfl, by exact below_⟩
  | some fs =>
    obtain rfl : true = ok := HOK.out
    obtain ⟨hl, hrr⟩ := fringes_real HR.out
    have HRR := Lib.hid (fun f hf => (hrr f hf).1)
    simp only [Option.getD_some] at hO
    obtain ⟨A1, c1, hv1, hF1⟩ := hO.frs
    subst hv1
    rw [hl] at hF1 ⊢
    have he : N = fs.any (· == ⟨0, 0, 1⟩) := by rw [← HN.out, darkI, HR.out]
    have HE := Lib.hid he
    have hcap := hF1.2.1
    have hcm := hF1.2.2.1
    have HF := Lib.hid hF1
    have HLN := Lib.hid hl
    clear he hrr hO hF1 hl
    go_upto_region 3 with fail
    go_loopw [9] (fun iv wr => ∃ k : Nat, k ≤ 4 ∧ iv = .int .i64 k ∧ Hid ((fs.take k).any (· == ⟨0, 0, 1⟩) = false) ∧ Below w1.heap.size w1 wr) (fun iv _ => 4 - (intOf iv).toNat)
    case atStart => exact ⟨0, by omega, rfl, Lib.hid rfl, Below.refl _ _⟩
    case round =>
      obtain ⟨k, hk, rfl, hno, hb⟩ := hrel
      have hzv := hb.size
      have hBw := bstep hB hb hB.size
      have hzw := hBw.size
      have hkw : IntKind.i64.wrap ((k : Int) + 1) = (k : Int) + 1 := IntWalk.i64_in _ (by omega)
      by_cases hkl : k < 4
      · obtain ⟨bb, off, s, rfl, hbb, hs, c0, c1, c2⟩ := HF.out.at hb hkl
        have hki : (k : Int) < 4 := by omega
        have hrs := real_at HRR.out hs
        have HS := Lib.hid hs
        have hstep : (fs.take (k + 1)).any (· == ⟨0, 0, 1⟩) = (s == ⟨0, 0, 1⟩) := by
          rw [List.take_add_one, hs, List.any_append, hno.out]
          simp
        have HST := Lib.hid hstep
        clear hs hstep
        obtain ⟨z, hz⟩ : ∃ z, (s.re == 0) = z := ⟨_, rfl⟩
        have hzz := real_zero hrs
        rw [hz] at hzz
        have HZ := Lib.hid hzz
        clear hzz hrs
        cases z
        · go_wp2
          go_roundw
          case rel => exact ⟨k + 1, by omega, by go_num, Lib.hid (by rw [HST.out, HZ.out]), hb⟩
          case measure => simp [intOf]; omega
        · have he : N = true := by
            rw [HE.out, List.any_eq_true]
            exact ⟨s, List.mem_of_getElem? HS.out, HZ.out⟩
          have HE2 := Lib.hid he
          clear he
          go_wp2
          go_ret
          exact ⟨by rw [HE2.out]; rfl, by exact below_⟩
      · obtain rfl : k = 4 := by omega
        have he : N = false := by
          rw [HE.out, ← hno.out, List.take_of_length_le (by rw [HLN.out]; exact Nat.le_refl _)]
        have HE2 := Lib.hid he
        clear he
        go_wp2
        go_ret
        exact ⟨by rw [HE2.out]; rfl, by exact below_⟩
set_option maxRecDepth 100000 in
set_option maxHeartbeats 8000000 in
theorem dark_port (a b : ByteArray) (v : Jn) (w : World) (ha : a.size ≤ 1048576) (hb2 : b.size ≤ 1048576) (hGP : GP w) :
    Calls Tryz.prog 27 #[.string a, .string b, jnv v] w fun e w' => e = .returned (.bool (darkI a.data.toList b.data.toList v)) ∧ Below w.heap.size w w' := by
  obtain ⟨R, hR⟩ : ∃ R, fringesI a.data.toList b.data.toList v = R := ⟨_, rfl⟩
  obtain ⟨N, hN⟩ : ∃ N, darkI a.data.toList b.data.toList v = N := ⟨_, rfl⟩
  obtain ⟨ok, hok⟩ : ∃ ok, R.isSome = ok := ⟨_, rfl⟩
  rw [hN]
  have HR := Lib.hid hR
  have HN := Lib.hid hN
  have HOK := Lib.hid hok
  clear hN hR hok
  obtain ⟨W0, hW0, hQ⟩ : ∃ W, W = w.alloc (.cells #[.int .i64 v.x.re, .int .i64 v.x.im, .int .i64 v.x.den, .int .i64 v.y.re, .int .i64 v.y.im, .int .i64 v.y.den] 26) ∧ BW w [(w.heap.size, jc v, 26)] W := ⟨_, rfl, BW.one w (jc v) 26⟩
  obtain ⟨j0, j1, j2, j3, j4, j5⟩ := (blk_j (a := v) (hQ.at (b := w.heap.size) (cs := jc v) (t := 26) (by simp))).1
  go_enter Tryz.func27, Tryz.ntmps27
  go_upto_region 1 with fail
  rw [← hW0]
  clear hW0
  have hfr := fringes_any a b v W0 ha hb2 (hGP.below hQ.B)
  rw [HR.out, HOK.out] at hfr
  go_upto_region 2 with (go_at_call 15; (with_reducible refine hfr.mono ?_); rintro e w1 ⟨lv, rfl, hO, hb⟩)
  have hB := bstep hQ.B hb hQ.B.size
  clear hfr hb j0 j1 j2 j3 j4 j5 hQ
  cases R with
  | none =>
    have he : N = false := by rw [← HN.out, darkI, HR.out]
    have HE := Lib.hid he
    obtain rfl : false = ok := HOK.out
    simp only [Option.getD_none] at hO
    obtain ⟨A1, c1, hv1, hF1⟩ := hO.frs
    subst hv1
    simp only [List.length_nil]
    clear he hO hF1
    go_upto_region 3 with fail
    go_loopw [20] (fun iv wr => iv = .int .i64 0 ∧ wr = w1) (fun _ _ => 0)
    case atStart => exact ⟨rfl, rfl⟩
    case round =>
      obtain ⟨rfl, rfl⟩ := hrel
      go_wp2
      go_ret
      exact ⟨by rw [HE.out]; rfl, by exact below_⟩
  | some fs =>
    obtain rfl : true = ok := HOK.out
    obtain ⟨hl, hrr⟩ := fringes_real HR.out
    have HRR := Lib.hid (fun f hf => (hrr f hf).1)
    simp only [Option.getD_some] at hO
    obtain ⟨A1, c1, hv1, hF1⟩ := hO.frs
    subst hv1
    rw [hl] at hF1 ⊢
    have he : N = fs.any (· == ⟨0, 0, 1⟩) := by rw [← HN.out, darkI, HR.out]
    have HE := Lib.hid he
    have hcap := hF1.2.1
    have hcm := hF1.2.2.1
    have HF := Lib.hid hF1
    have HLN := Lib.hid hl
    clear he hrr hO hF1 hl
    go_upto_region 3 with fail
    go_loopw [20] (fun iv wr => ∃ k : Nat, k ≤ 4 ∧ iv = .int .i64 k ∧ Hid ((fs.take k).any (· == ⟨0, 0, 1⟩) = false) ∧ Below w1.heap.size w1 wr) (fun iv _ => 4 - (intOf iv).toNat)
    case atStart => exact ⟨0, by omega, rfl, Lib.hid rfl, Below.refl _ _⟩
    case round =>
      obtain ⟨k, hk, rfl, hno, hb⟩ := hrel
      have hzv := hb.size
      have hBw := bstep hB hb hB.size
      have hzw := hBw.size
      have hkw : IntKind.i64.wrap ((k : Int) + 1) = (k : Int) + 1 := IntWalk.i64_in _ (by omega)
      by_cases hkl : k < 4
      · obtain ⟨bb, off, s, rfl, hbb, hs, c0, c1, c2⟩ := HF.out.at hb hkl
        have hki : (k : Int) < 4 := by omega
        have hrs := real_at HRR.out hs
        have HS := Lib.hid hs
        have hstep : (fs.take (k + 1)).any (· == ⟨0, 0, 1⟩) = (s == ⟨0, 0, 1⟩) := by
          rw [List.take_add_one, hs, List.any_append, hno.out]
          simp
        have HST := Lib.hid hstep
        clear hs hstep
        obtain ⟨z, hz⟩ : ∃ z, (s.re == 0) = z := ⟨_, rfl⟩
        have hzz := real_zero hrs
        rw [hz] at hzz
        have HZ := Lib.hid hzz
        have hGZ := (hGP.below hBw).z
        obtain ⟨g0, g1, g2⟩ := hGZ.val
        have hgl := hGZ.lts
        simp only [Nat.zero_add] at g0 g1 g2
        clear hzz hrs hGZ
        cases z
        · have hz2 : ¬ s.re = 0 := by simpa using hz
          clear hz
          go_wp2
          go_roundw
          case rel => exact ⟨k + 1, by omega, by go_num, Lib.hid (by rw [HST.out, HZ.out]), by exact below_⟩
          case measure => simp [intOf]; omega
        · have he : N = true := by
            rw [HE.out, List.any_eq_true]
            exact ⟨s, List.mem_of_getElem? HS.out, HZ.out⟩
          have HE2 := Lib.hid he
          have hse : s = ⟨0, 0, 1⟩ := by simpa using HZ.out
          clear he HST HS HZ hz
          subst hse
          dsimp only at c0 c1 c2
          go_wp2
          go_ret
          exact ⟨by rw [HE2.out]; rfl, by exact below_⟩
      · obtain rfl : k = 4 := by omega
        have he : N = false := by
          rw [HE.out, ← hno.out, List.take_of_length_le (by rw [HLN.out]; exact Nat.le_refl _)]
        have HE2 := Lib.hid he
        clear he
        go_wp2
        go_ret
        exact ⟨by rw [HE2.out]; rfl, by exact below_⟩
end Go.Proofs.YtjbnkefeacineaaGreatDoor
