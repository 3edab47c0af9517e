/-
  The walks of MeterDet, MeterGood and MeterSolve, the program's and the reference's.
-/
import Derived.Test.YtalcjmefmffcnaaDoorUn
namespace Go.Proofs.YtalcjmefmffcnaaDoor
set_option linter.unusedSimpArgs false
set_option linter.unusedVariables false
open Go.RowKit
attribute [local go_sem ↓] Go.wp_at_zero Go.wp_at_succ
theorem arrV_none {o : Option (List Fr)} {q : Mt} {ok : Bool} (h : arrV o = .tuple #[mtv q, .bool ok]) (hk : ok = false) : q = zM4 := by
  subst hk
  unfold arrV at h
  split at h
  · simp at h
  · obtain ⟨⟨a0, a1, a2⟩, ⟨b0, b1, b2⟩, ⟨c0, c1, c2⟩, ⟨d0, d1, d2⟩⟩ := q
    simp at h
    obtain ⟨rfl, rfl, rfl, rfl, rfl, rfl, rfl, rfl, rfl, rfl, rfl, rfl⟩ := h
    rfl
theorem got_frS (a g : Fr) (bs : Nat) (b n : Bool) (w : World) (hs : SumIs w bs b) (h : Hid (gotF b (⟨0, 0, 0⟩ : Fr) a = g ∧ (!b) = n)) :
    Calls Tryd.prog 70 #[.pointer (some ⟨bs, 0, none⟩), frv a] w fun e w' => e = .returned (.tuple #[frv g, .bool n]) ∧ Below w.heap.size w w' :=
  (got_frac a bs w (SumEx.of hs)).mono fun e w' ⟨c, h1, h2, h3⟩ => ⟨by rw [← h.out.1, ← h.out.2, hs.uniq h1]; exact h2, h3⟩
theorem rowsOf_t (A : Option Addr) (len cap : Nat) (xs : List Sta) (w : World) (hS : Sas A len cap xs w) (hO : GO w) (hZ : GZ w) (hT : GT w) (rows : List (List Fr)) (h : rowsI xs = some rows) :
    Calls Tryd.prog 69 #[.slice A len cap] w fun e w' => (∃ v, e = .returned (.tuple #[v, .bool true]) ∧ OwRs w.heap.size v rows w') ∧ Below w.heap.size w w' :=
  (rowsOf_any A len cap xs w hS hO hZ hT).mono fun e w' ⟨⟨v, h1, h2⟩, h3⟩ => ⟨⟨v, by rw [h1, h]; rfl, h2 rows h⟩, h3⟩
theorem rowsOf_f (A : Option Addr) (len cap : Nat) (xs : List Sta) (w : World) (hS : Sas A len cap xs w) (hO : GO w) (hZ : GZ w) (hT : GT w) (h : rowsI xs = none) :
    Calls Tryd.prog 69 #[.slice A len cap] w fun e w' => (∃ v, e = .returned (.tuple #[v, .bool false])) ∧ Below w.heap.size w w' :=
  (rowsOf_any A len cap xs w hS hO hZ hT).mono fun e w' ⟨⟨v, h1, _⟩, h3⟩ => ⟨⟨v, by rw [h1, h]; rfl⟩, h3⟩
theorem srows_t (A : Option Addr) (len cap : Nat) (xs : List Sta) (w : World) (hS : Sas A len cap xs w) (rows : List (List Fr)) (h : rowsI xs = some rows) :
    Calls Tryd.prog 72 #[.slice A len cap] w fun e w' => (∃ v, e = .returned (.tuple #[v, .bool true]) ∧ OwRs w.heap.size v rows w') ∧ Below w.heap.size w w' :=
  (srows_any A len cap xs w hS).mono fun e w' ⟨⟨v, h1, h2⟩, h3⟩ => ⟨⟨v, by rw [h1, h]; rfl, h2 rows h⟩, h3⟩
theorem srows_f (A : Option Addr) (len cap : Nat) (xs : List Sta) (w : World) (hS : Sas A len cap xs w) (h : rowsI xs = none) :
    Calls Tryd.prog 72 #[.slice A len cap] w fun e w' => (∃ v, e = .returned (.tuple #[v, .bool false])) ∧ Below w.heap.size w w' :=
  (srows_any A len cap xs w hS).mono fun e w' ⟨⟨v, h1, _⟩, h3⟩ => ⟨⟨v, by rw [h1, h]; rfl⟩, h3⟩
set_option maxRecDepth 100000 in
set_option maxHeartbeats 8000000 in
theorem det_any (A : Option Addr) (len cap : Nat) (xs : List Sta) (w : World) (hS : Sas A len cap xs w) (hO : GO w) (hZ : GZ w) (hT : GT w) :
    Calls Tryd.prog 25 #[.slice A len cap] w fun e w' => e = .returned (frb (detM xs)) ∧ Below w.heap.size w w' := by
  have hr0 : Blk (w.alloc (.cells #[.int .i64 0, .int .i64 0, .int .i64 0] 25)) w.heap.size z3c 25 := heap_alloc_last w _
  cases hR : rowsI xs with
  | none =>
    have HR := Lib.hid hR
    have he : detM xs = none := by unfold detM; rw [hR]; rfl
    rw [he]
    clear he hR
    go_enter Tryd.func25, Tryd.ntmps25
    go_wp2_with (first | (go_at_call 69; (with_reducible refine (rowsOf_f A len cap xs _ (hS.below (by exact below_)) (hO.below (by exact below_)) (hZ.below (by exact below_)) (hT.below (by exact below_)) HR.out).mono ?_); rintro e w1 ⟨⟨v, rfl⟩, hb⟩; have hB : Below w.heap.size w w1 := bstep (by exact below_) hb (by simp); have hr1 : Blk w1 w.heap.size z3c 25 := (hb.block _ (by simp)).trans hr0; obtain ⟨c0, c1, c2⟩ := blk_get (xs := [zK]) hr1 (i := 0) (show 0 < 1 by decide); have cf := blk_free hr1; simp only [Nat.zero_mul, Nat.zero_add] at c0 c1 c2; clear hb hr0))
    exact bodyPost_ret (v := frb none) (by simp [results, Tryd.results25, go_sem, frb, *]) rfl ⟨rfl, by exact below_⟩
  | some rows =>
    have HR := Lib.hid hR
    obtain ⟨d, hd⟩ : ∃ d, d = detI 3 rows := ⟨_, rfl⟩
    have he : detM xs = if d.2 then none else some d.1 := by unfold detM; rw [hR, hd]; rfl
    rw [he]
    obtain ⟨gv, gn, hgv⟩ : ∃ x n, gotF d.2 (⟨0, 0, 0⟩ : Fr) d.1 = x ∧ (!d.2) = n := ⟨_, _, rfl, rfl⟩
    have hform : frb (if d.2 then none else some d.1) = .tuple #[frv gv, .bool gn] := by rw [← hgv.1, ← hgv.2]; cases d.2 <;> rfl
    rw [hform]
    have HGV := Lib.hid hgv
    clear hgv hform
    have hsq := rowsI_sq hR
    have hshp : Shape 3 rows := ⟨hsq.1, fun r hr => (hsq.2 r hr).1⟩
    have HD : Hid (∀ A1 c1 bs W, RowsAt bs A1 4 c1 rows W → SumEx W bs → Calls Tryd.prog 71 #[.pointer (some ⟨bs, 0, none⟩), .slice A1 4 c1] W fun e w' => e = .returned (frv d.1) ∧ (∀ c, SumIs W bs c → SumIs w' bs (c || d.2)) ∧ BelX W.heap.size bs W w') := Lib.hid (fun A1 c1 bs W h1 h2 => by rw [hd]; exact det3 A1 c1 bs rows W hshp h1 h2)
    clear he hR hd hsq hshp
    go_enter Tryd.func25, Tryd.ntmps25
    go_upto_region 4 with (first | (go_at_call 69; (with_reducible refine (rowsOf_t A len cap xs _ (hS.below (by exact below_)) (hO.below (by exact below_)) (hZ.below (by exact below_)) (hT.below (by exact below_)) rows HR.out).mono ?_); rintro e w1 ⟨⟨v, rfl, hRs⟩, hb⟩; have hB : Below w.heap.size w w1 := bstep (by exact below_) hb (by simp); have hr1 : Blk w1 w.heap.size z3c 25 := (hb.block _ (by simp)).trans hr0; have hzz : w.heap.size < w1.heap.size := blk_lt hr1; clear hb hr0))
    have hlen : rows.length = 4 := (rowsI_sq HR.out).1
    obtain ⟨A1, c1, e1, -⟩ := hRs.readA (bs := w1.heap.size) (Nat.le_refl _)
    rw [hlen] at e1
    subst e1
    have hRR : ∀ bs, w1.heap.size ≤ bs → RowsAt bs A1 4 c1 rows w1 := by
      intro bs hbs
      obtain ⟨A', c', e', hR'⟩ := hRs.readA hbs
      rw [hlen] at e' hR'
      simp only [Value.slice.injEq, true_and] at e'
      obtain ⟨rfl, rfl⟩ := e'
      exact hR'
    clear hRs hlen
    have hs2 : SumIs (w1.alloc (.cells #[.bool false] 103)) w1.heap.size false := SumIs.new' rfl
    have hR2 : RowsAt w1.heap.size A1 4 c1 rows (w1.alloc (.cells #[.bool false] 103)) := (hRR _ (Nat.le_refl _)).belX ((BelX.refl _ _ _).alloc (Nat.le_refl _) _)
    go_upto_region 5 with fail
    go_wp2_with (first | (go_at_call 71; (with_reducible refine (HD.out A1 c1 w1.heap.size _ hR2 (SumEx.of hs2)).mono ?_); rintro e w2 ⟨rfl, hu, hx⟩; have hs3 := (hu _ hs2).sub (Bool.false_or d.2); have hr2 : Blk w2 w.heap.size z3c 25 := (hx.block _ (by simp; omega) (by omega)).trans ((Below.heap_alloc _ _ _ hzz).trans hr1); have hB2 : Below w.heap.size w w2 := (((BelX.of (hB.alloc hB.size _)).trans (hx.mono (by simp; omega))).below (by omega)); clear hu hx) | (go_at_call 70; (with_reducible refine (got_frS d.1 gv w1.heap.size d.2 gn _ hs3 HGV).mono ?_); rintro e w3 ⟨rfl, hb⟩; have hB3 : Below w.heap.size w w3 := bstep hB2 hb hB2.size; have hr3 : Blk w3 w.heap.size z3c 25 := (hb.block _ (blk_lt hr2)).trans hr2; obtain ⟨k0, k1, k2⟩ := blk_get (xs := [zK]) hr3 (i := 0) (show 0 < 1 by decide); have kf := blk_free hr3; simp only [Nat.zero_mul, Nat.zero_add] at k0 k1 k2; clear hb))
    exact bodyPost_ret (v := .tuple #[frv gv, .bool gn]) (by simp [results, Tryd.results25, go_sem, *]) rfl ⟨rfl, by exact below_⟩
theorem det_any_m (A : Option Addr) (len cap : Nat) (xs : List Sta) (w : World) (hS : Sas A len cap xs w) (hO : GO w) (hZ : GZ w) (hT : GT w) (f : Fr) (ok : Bool) (e : Hid (frb (detM xs) = .tuple #[frv f, .bool ok])) :
    Calls Tryd.prog 25 #[.slice A len cap] w fun e w' => e = .returned (.tuple #[frv f, .bool ok]) ∧ Below w.heap.size w w' := by
  rw [← e.out]; exact det_any A len cap xs w hS hO hZ hT
set_option maxRecDepth 100000 in
set_option maxHeartbeats 8000000 in
theorem sdet_any (A : Option Addr) (len cap : Nat) (xs : List Sta) (w : World) (hS : Sas A len cap xs w) :
    Calls Tryd.prog 26 #[.slice A len cap] w fun e w' => e = .returned (frb (detM xs)) ∧ Below w.heap.size w w' := by
  have hr0 : Blk (w.alloc (.cells #[.int .i64 0, .int .i64 0, .int .i64 0] 25)) w.heap.size z3c 25 := heap_alloc_last w _
  cases hR : rowsI xs with
  | none =>
    have HR := Lib.hid hR
    have he : detM xs = none := by unfold detM; rw [hR]; rfl
    rw [he]
    clear he hR
    go_enter Tryd.func26, Tryd.ntmps26
    go_wp2_with (first | (go_at_call 72; (with_reducible refine (srows_f A len cap xs _ (hS.below (by exact below_)) HR.out).mono ?_); rintro e w1 ⟨⟨v, rfl⟩, hb⟩; have hB : Below w.heap.size w w1 := bstep (by exact below_) hb (by simp); have hr1 : Blk w1 w.heap.size z3c 25 := (hb.block _ (by simp)).trans hr0; obtain ⟨c0, c1, c2⟩ := blk_get (xs := [zK]) hr1 (i := 0) (show 0 < 1 by decide); have cf := blk_free hr1; simp only [Nat.zero_mul, Nat.zero_add] at c0 c1 c2; clear hb hr0))
    exact bodyPost_ret (v := frb none) (by simp [results, Tryd.results26, go_sem, frb, *]) rfl ⟨rfl, by exact below_⟩
  | some rows =>
    have HR := Lib.hid hR
    obtain ⟨d, hd⟩ : ∃ d, d = detS 3 rows := ⟨_, rfl⟩
    have he : detM xs = if d.2 then none else some d.1 := by rw [detM_S, hR, hd]; rfl
    rw [he]
    have hsq := rowsI_sq hR
    have hshp : Shape 3 rows := ⟨hsq.1, fun r hr => (hsq.2 r hr).1⟩
    have HD : Hid (∀ A1 c1 bs W, RowsAt bs A1 4 c1 rows W → OkEx W bs → Calls Tryd.prog 73 #[.pointer (some ⟨bs, 0, none⟩), .slice A1 4 c1] W fun e w' => e = .returned (frv d.1) ∧ (∀ c, OkIs W bs c → OkIs w' bs (c || d.2)) ∧ BelX W.heap.size bs W w') := Lib.hid (fun A1 c1 bs W h1 h2 => by rw [hd]; exact sdet3 A1 c1 bs rows W hshp h1 h2)
    clear he hR hd hsq hshp
    go_enter Tryd.func26, Tryd.ntmps26
    go_upto_region 4 with (first | (go_at_call 72; (with_reducible refine (srows_t A len cap xs _ (hS.below (by exact below_)) rows HR.out).mono ?_); rintro e w1 ⟨⟨v, rfl, hRs⟩, hb⟩; have hB : Below w.heap.size w w1 := bstep (by exact below_) hb (by simp); have hr1 : Blk w1 w.heap.size z3c 25 := (hb.block _ (by simp)).trans hr0; have hzz : w.heap.size < w1.heap.size := blk_lt hr1; clear hb hr0))
    have hlen : rows.length = 4 := (rowsI_sq HR.out).1
    obtain ⟨A1, c1, e1, -⟩ := hRs.readA (bs := w1.heap.size) (Nat.le_refl _)
    rw [hlen] at e1
    subst e1
    have hRR : ∀ bs, w1.heap.size ≤ bs → RowsAt bs A1 4 c1 rows w1 := by
      intro bs hbs
      obtain ⟨A', c', e', hR'⟩ := hRs.readA hbs
      rw [hlen] at e' hR'
      simp only [Value.slice.injEq, true_and] at e'
      obtain ⟨rfl, rfl⟩ := e'
      exact hR'
    clear hRs hlen
    have hs2 : OkIs (w1.alloc (.cells #[.bool true] 108)) w1.heap.size false := OkIs.new w1 false
    have hR2 : RowsAt w1.heap.size A1 4 c1 rows (w1.alloc (.cells #[.bool true] 108)) := (hRR _ (Nat.le_refl _)).belX ((BelX.refl _ _ _).alloc (Nat.le_refl _) _)
    go_upto_region 5 with fail
    go_upto_region 6 with (first | (go_at_call 73; (with_reducible refine (HD.out A1 c1 w1.heap.size _ hR2 (OkEx.of hs2)).mono ?_); rintro e w2 ⟨rfl, hu, hx⟩; have hs3 := hu _ hs2; have hr2 : Blk w2 w.heap.size z3c 25 := (hx.block _ (by simp; omega) (by omega)).trans ((Below.heap_alloc _ _ _ hzz).trans hr1); have hB2 : Below w.heap.size w w2 := (((BelX.of (hB.alloc hB.size _)).trans (hx.mono (by simp; omega))).below (by omega)); clear hu hx))
    obtain ⟨d1, d2⟩ := d
    have hcs := (hs3.alloc (.cells #[.int .i64 d1.re, .int .i64 d1.im, .int .i64 d1.den] 25)).cell
    have hr4 : Blk (w2.alloc (.cells #[.int .i64 d1.re, .int .i64 d1.im, .int .i64 d1.den] 25)) w.heap.size z3c 25 := (Below.heap_alloc _ _ _ (blk_lt hr2)).trans hr2
    obtain ⟨k0, k1, k2⟩ := blk_get (xs := [zK]) hr4 (i := 0) (show 0 < 1 by decide)
    have kf := blk_free hr4
    simp only [Nat.zero_mul, Nat.zero_add] at k0 k1 k2
    have hne : ¬ w.heap.size = w2.heap.size := by have := blk_lt hr2; omega
    have hB4 : Below w.heap.size w (w2.alloc (.cells #[.int .i64 d1.re, .int .i64 d1.im, .int .i64 d1.den] 25)) := hB2.alloc hB2.size _
    clear hr1 hr2 hr4 hRR hs2 hs3 hR2
    cases d2
    · go_wp2
      exact bodyPost_ret (v := frb (some d1)) (by simp [results, Tryd.results26, go_sem, frb, *]) rfl ⟨rfl, by exact below_⟩
    · go_wp2
      exact bodyPost_ret (v := frb none) (by simp [results, Tryd.results26, go_sem, frb, *]) rfl ⟨rfl, by exact below_⟩
theorem sdet_any_m (A : Option Addr) (len cap : Nat) (xs : List Sta) (w : World) (hS : Sas A len cap xs w) (f : Fr) (ok : Bool) (e : Hid (frb (detM xs) = .tuple #[frv f, .bool ok])) :
    Calls Tryd.prog 26 #[.slice A len cap] w fun e w' => e = .returned (.tuple #[frv f, .bool ok]) ∧ Below w.heap.size w w' := by
  rw [← e.out]; exact sdet_any A len cap xs w hS
set_option maxRecDepth 100000 in
set_option maxHeartbeats 8000000 in
theorem good_any (A : Option Addr) (len cap : Nat) (xs : List Sta) (w : World) (hS : Sas A len cap xs w) (hO : GO w) (hZ : GZ w) (hT : GT w) :
    Calls Tryd.prog 28 #[.slice A len cap] w fun e w' => e = .returned (.bool (goodM xs)) ∧ Below w.heap.size w w' := by
  cases hD : detM xs with
  | none =>
    have hv : goodM xs = false := by unfold goodM; rw [hD]; rfl
    rw [hv]
    have HD := Lib.hid (show frb (detM xs) = .tuple #[frv zK, .bool false] by rw [hD]; rfl)
    clear hD hv
    go_enter Tryd.func28, Tryd.ntmps28
    go_wp2_with (go_at_call 25; (with_reducible refine (det_any_m A len cap xs _ hS hO hZ hT _ _ HD).mono ?_); rintro e w1 ⟨rfl, hb⟩; have hz := hb.size)
    go_ret
    exact ⟨rfl, by exact below_⟩
  | some f =>
    obtain ⟨rows, -, -, -, rv⟩ := detM_some hD
    have hv : goodM xs = !(f.re == 0) := by unfold goodM; rw [hD]; rfl
    have hz := real_zero rv
    rw [← frq_eq] at hz
    simp only at hz
    rw [hv]
    have HD := Lib.hid (show frb (detM xs) = .tuple #[frv f, .bool true] by rw [hD]; rfl)
    have HV := Lib.hid hz
    clear hD hv hz
    go_enter Tryd.func28, Tryd.ntmps28
    go_wp2_with (go_at_call 25; (with_reducible refine (det_any_m A len cap xs _ hS hO hZ hT _ _ HD).mono ?_); rintro e w1 ⟨rfl, hb⟩; have hz := hb.size; have hZ1 := hZ.below hb; obtain ⟨z0, z1, z2⟩ := hZ1.val; have hl := hZ1.lts; clear hZ1)
    all_goals go_ret
    all_goals (refine ⟨?_, by exact below_⟩; have hv := HV.out; simp_all)
set_option maxRecDepth 100000 in
set_option maxHeartbeats 8000000 in
theorem sgood_any (A : Option Addr) (len cap : Nat) (xs : List Sta) (w : World) (hS : Sas A len cap xs w) :
    Calls Tryd.prog 29 #[.slice A len cap] w fun e w' => e = .returned (.bool (goodM xs)) ∧ Below w.heap.size w w' := by
  cases hD : detM xs with
  | none =>
    have hv : goodM xs = false := by unfold goodM; rw [hD]; rfl
    rw [hv]
    have HD := Lib.hid (show frb (detM xs) = .tuple #[frv zK, .bool false] by rw [hD]; rfl)
    clear hD hv
    go_enter Tryd.func29, Tryd.ntmps29
    go_wp2_with (go_at_call 26; (with_reducible refine (sdet_any_m A len cap xs _ hS _ _ HD).mono ?_); rintro e w1 ⟨rfl, hb⟩; have hz := hb.size)
    go_ret
    exact ⟨rfl, by exact below_⟩
  | some f =>
    obtain ⟨rows, -, -, -, rv⟩ := detM_some hD
    have hv : goodM xs = !(f.re == 0) := by unfold goodM; rw [hD]; rfl
    have hz := real_zero rv
    rw [← frq_eq] at hz
    simp only at hz
    rw [hv]
    have HD := Lib.hid (show frb (detM xs) = .tuple #[frv f, .bool true] by rw [hD]; rfl)
    have HV := Lib.hid hz
    clear hD hv hz
    go_enter Tryd.func29, Tryd.ntmps29
    go_wp2_with (go_at_call 26; (with_reducible refine (sdet_any_m A len cap xs _ hS _ _ HD).mono ?_); rintro e w1 ⟨rfl, hb⟩; have hz := hb.size)
    go_ret
    exact ⟨by simp [bne], by exact below_⟩
set_option maxRecDepth 100000 in
set_option maxHeartbeats 8000000 in
theorem msolve_any (A : Option Addr) (len cap : Nat) (xs : List Sta) (w : World) (hS : Sas A len cap xs w) (A2 : Option Addr) (len2 cap2 : Nat) (rs : List Fr) (hF : Frs A2 len2 cap2 rs w) (hO : GO w) (hZ : GZ w) (hT : GT w) :
    Calls Tryd.prog 48 #[.slice A len cap, .slice A2 len2 cap2] w fun e w' => e = .returned (arrV (solM xs rs)) ∧ Below w.heap.size w w' := by
  have hA0 := ArrW.zero w 44
  cases hR : rowsI xs with
  | none =>
    have HR := Lib.hid hR
    have he : solM xs rs = none := by unfold solM; rw [hR]; rfl
    rw [he]
    clear he hR
    go_enter Tryd.func48, Tryd.ntmps48
    go_wp2_with (first | (go_at_call 69; (with_reducible refine (rowsOf_f A len cap xs _ (hS.below (by exact below_)) (hO.below (by exact below_)) (hZ.below (by exact below_)) (hT.below (by exact below_)) HR.out).mono ?_); rintro e w1 ⟨⟨v, rfl⟩, hb⟩; have hB : Below w.heap.size w w1 := bstep (by exact below_) hb (by simp); have hA1 := hA0.below hb; clear hb; obtain ⟨z0, z1, z2, z3, z4, z5, z6, z7, z8, z9, z10, z11⟩ := hA1.z; have hzf := hA1.f; have hzl := hA1.l))
    exact bodyPost_ret (v := arrV none) (by simp [results, Tryd.results48, go_sem, arrV, *]) rfl ⟨rfl, by exact below_⟩
  | some rows =>
    have HR := Lib.hid hR
    obtain ⟨q, ok, hq⟩ := arrV_form (solI rows rs)
    have he : arrV (solM xs rs) = .tuple #[mtv q, .bool ok] := by unfold solM; rw [hR, ← hq]; rfl
    
    have hsq := rowsI_sq hR
    have hrl : ∀ r ∈ rows, r.length = 4 := fun r hr => (hsq.2 r hr).1
    rw [he]
    have HQ := Lib.hid hq
    clear he hR hsq hq
    go_enter Tryd.func48, Tryd.ntmps48
    go_upto_region 4 with (first | (go_at_call 69; (with_reducible refine (rowsOf_t A len cap xs _ (hS.below (by exact below_)) (hO.below (by exact below_)) (hZ.below (by exact below_)) (hT.below (by exact below_)) rows HR.out).mono ?_); rintro e w1 ⟨⟨v, rfl, hRs⟩, hb⟩; have hB : Below w.heap.size w w1 := bstep (by exact below_) hb (by simp); have hA1 := hA0.below hb; clear hb))
    have hlen : rows.length = 4 := (rowsI_sq HR.out).1
    obtain ⟨A1, c1, e1, -⟩ := hRs.readA (bs := w1.heap.size) (Nat.le_refl _)
    rw [hlen] at e1
    subst e1
    have hRR : ∀ bs, w1.heap.size ≤ bs → RowsAt bs A1 4 c1 rows w1 := by
      intro bs hbs
      obtain ⟨A', c', e', hR'⟩ := hRs.readA hbs
      rw [hlen] at e' hR'
      simp only [Value.slice.injEq, true_and] at e'
      obtain ⟨rfl, rfl⟩ := e'
      exact hR'
    clear hRs hlen
    go_wp2_with (go_at_call 65; (with_reducible refine (solve_m A1 4 c1 rows A2 len2 cap2 rs q ok _ hRR hrl (hF.below hB) (hZ.below hB) HQ).mono ?_); rintro e w2 ⟨rfl, hb⟩; refine Hid.out ?_)
    refine Lib.hid ?_
    go_upto_region 5 with fail
    obtain ⟨bq, hbq⟩ : ∃ b, b = w2.heap.size := ⟨_, rfl⟩
    obtain ⟨W3, hW3, hA2, hB2, hM2⟩ : ∃ W, W = w2.alloc (.cells #[.int .i64 q.a.re, .int .i64 q.a.im, .int .i64 q.a.den, .int .i64 q.b.re, .int .i64 q.b.im, .int .i64 q.b.den, .int .i64 q.c.re, .int .i64 q.c.im, .int .i64 q.c.den, .int .i64 q.d.re, .int .i64 q.d.im, .int .i64 q.d.den] 26) ∧ ArrW W w.heap.size zs4 ∧ Below w.heap.size w W ∧ MtAt W bq q := by
      have h9 : Below w.heap.size w w2 := bstep hB hb hB.size
      refine ⟨_, rfl, (hA1.below hb).alloc _, h9.alloc h9.size _, ?_⟩
      rw [hbq]; exact MtAt.new w2 q 26
    rw [← hW3, ← hbq]
    obtain ⟨z0, z1, z2, z3, z4, z5, z6, z7, z8, z9, z10, z11⟩ := hA2.z
    have hzf := hA2.f
    have hzl := hA2.l
    obtain ⟨y0, y1, y2, y3, y4, y5, y6, y7, y8, y9, y10, y11⟩ := hM2
    clear hb hRR hW3 hbq hA1 hA2
    go_wp2
    exact bodyPost_ret (v := .tuple #[mtv q, .bool ok]) (by simp [results, Tryd.results48, go_sem, *]) rfl ⟨rfl, by exact below_⟩
set_option maxRecDepth 100000 in
set_option maxHeartbeats 8000000 in
theorem smsolve_any (A : Option Addr) (len cap : Nat) (xs : List Sta) (w : World) (hS : Sas A len cap xs w) (A2 : Option Addr) (len2 cap2 : Nat) (rs : List Fr) (hF : Frs A2 len2 cap2 rs w) :
    Calls Tryd.prog 46 #[.slice A len cap, .slice A2 len2 cap2] w fun e w' => e = .returned (arrV (solM xs rs)) ∧ Below w.heap.size w w' := by
  have hA0 := ArrW.zero w 44
  cases hR : rowsI xs with
  | none =>
    have HR := Lib.hid hR
    have he : solM xs rs = none := by unfold solM; rw [hR]; rfl
    rw [he]
    clear he hR
    go_enter Tryd.func46, Tryd.ntmps46
    go_wp2_with (first | (go_at_call 72; (with_reducible refine (srows_f A len cap xs _ (hS.below (by exact below_)) HR.out).mono ?_); rintro e w1 ⟨⟨v, rfl⟩, hb⟩; have hB : Below w.heap.size w w1 := bstep (by exact below_) hb (by simp); have hA1 := hA0.below hb; clear hb; obtain ⟨z0, z1, z2, z3, z4, z5, z6, z7, z8, z9, z10, z11⟩ := hA1.z; have hzf := hA1.f; have hzl := hA1.l))
    exact bodyPost_ret (v := arrV none) (by simp [results, Tryd.results46, go_sem, arrV, *]) rfl ⟨rfl, by exact below_⟩
  | some rows =>
    have HR := Lib.hid hR
    obtain ⟨q, ok, hq⟩ := arrV_form (solS rows rs)
    have he : arrV (solM xs rs) = .tuple #[mtv q, .bool ok] := by rw [solM_S, hR, ← hq]; rfl
    have hz0 := arrV_none hq
    have hsq := rowsI_sq hR
    have hrl : ∀ r ∈ rows, r.length = 4 := fun r hr => (hsq.2 r hr).1
    rw [he]
    have HQ := Lib.hid hq
    clear he hR hsq hq
    go_enter Tryd.func46, Tryd.ntmps46
    go_upto_region 4 with (first | (go_at_call 72; (with_reducible refine (srows_t A len cap xs _ (hS.below (by exact below_)) rows HR.out).mono ?_); rintro e w1 ⟨⟨v, rfl, hRs⟩, hb⟩; have hB : Below w.heap.size w w1 := bstep (by exact below_) hb (by simp); have hA1 := hA0.below hb; clear hb))
    have hlen : rows.length = 4 := (rowsI_sq HR.out).1
    obtain ⟨A1, c1, e1, -⟩ := hRs.readA (bs := w1.heap.size) (Nat.le_refl _)
    rw [hlen] at e1
    subst e1
    have hRR : ∀ bs, w1.heap.size ≤ bs → RowsAt bs A1 4 c1 rows w1 := by
      intro bs hbs
      obtain ⟨A', c', e', hR'⟩ := hRs.readA hbs
      rw [hlen] at e' hR'
      simp only [Value.slice.injEq, true_and] at e'
      obtain ⟨rfl, rfl⟩ := e'
      exact hR'
    clear hRs hlen
    go_wp2_with (go_at_call 67; (with_reducible refine (ssolve_m A1 c1 rows A2 len2 cap2 rs q ok _ hRR hrl (hF.below hB) HQ).mono ?_); rintro e w2 ⟨rfl, hb⟩; refine Hid.out ?_)
    refine Lib.hid ?_
    go_upto_region 5 with fail
    obtain ⟨bq, hbq⟩ : ∃ b, b = w2.heap.size := ⟨_, rfl⟩
    obtain ⟨W3, hW3, hA2, hB2, hM2⟩ : ∃ W, W = w2.alloc (.cells #[.int .i64 q.a.re, .int .i64 q.a.im, .int .i64 q.a.den, .int .i64 q.b.re, .int .i64 q.b.im, .int .i64 q.b.den, .int .i64 q.c.re, .int .i64 q.c.im, .int .i64 q.c.den, .int .i64 q.d.re, .int .i64 q.d.im, .int .i64 q.d.den] 26) ∧ ArrW W w.heap.size zs4 ∧ Below w.heap.size w W ∧ MtAt W bq q := by
      have h9 : Below w.heap.size w w2 := bstep hB hb hB.size
      refine ⟨_, rfl, (hA1.below hb).alloc _, h9.alloc h9.size _, ?_⟩
      rw [hbq]; exact MtAt.new w2 q 26
    rw [← hW3, ← hbq]
    obtain ⟨z0, z1, z2, z3, z4, z5, z6, z7, z8, z9, z10, z11⟩ := hA2.z
    have hzf := hA2.f
    have hzl := hA2.l
    obtain ⟨y0, y1, y2, y3, y4, y5, y6, y7, y8, y9, y10, y11⟩ := hM2
    clear hb hRR hW3 hbq hA1 hA2
    cases hk : ok
    · obtain rfl := hz0 hk
      go_wp2
      exact bodyPost_ret (v := .tuple #[mtv zM4, .bool false]) (by simp [results, Tryd.results46, go_sem, zM4, *]) rfl ⟨rfl, by exact below_⟩
    · go_wp2
      exact bodyPost_ret (v := .tuple #[mtv q, .bool true]) (by simp [results, Tryd.results46, go_sem, *]) rfl ⟨by rw [hk], by exact below_⟩
end Go.Proofs.YtalcjmefmffcnaaDoor
