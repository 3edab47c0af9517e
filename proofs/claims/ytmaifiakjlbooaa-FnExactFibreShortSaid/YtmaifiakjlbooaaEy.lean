/-
  The walk of the statement that compares short fibres with the reference's: it returns true, for every list.
-/
import Derived.Test.YtmaifiakjlbooaaEx
import Derived.Test.YtmaifiakjlbooaaSi
import Derived.Test.YtmaifiakjlbooaaSj
namespace Go.Proofs.Ytmaifiakjlbooaa
set_option linter.unusedSimpArgs false
set_option linter.unusedVariables false
open Go.RowKit
theorem shortI_len (xs : List Sec) : (shortI xs).length ≤ 8 := by
  unfold shortI
  split
  · rename_i h
    exact Nat.le_trans (shortK_len _ _) (fibOk_len h)
  · simp
set_option maxRecDepth 100000 in
set_option maxHeartbeats 2000000 in
theorem fnExactFibreShort_walk (A : Option Addr) (len cap : Nat) (xs : List Sec) (w : World) (hS0 : Secs A len cap xs w) :
    Calls Try.prog 6 #[.slice A len cap] w fun e w' => e = .returned (.bool true) ∧ Below w.heap.size w w' := by
  have hcap := hS0.2.2.1
  have hlc := hS0.2.1
  by_cases hbig : 1048576 < len
  · go_enter Try.func6, Try.ntmps6
    go_wp2_with (go_at_call 14; (with_reducible refine (sz_far A len cap _ hbig (by omega)).mono ?_); rintro e w1 ⟨rfl, hb⟩)
    go_ret
    exact ⟨rfl, hb⟩
  have hlen : len ≤ 1048576 := by omega
  clear hbig
  have hml := shortI_len xs
  have hxb : xs.length ≤ 1048576 := by rw [hS0.1]; exact hlen
  go_enter Try.func6, Try.ntmps6
  go_wp2_with (go_at_call 14; (with_reducible refine (sz_any A len cap 1048576 _ (by omega) (by omega)).mono ?_); rintro e w1 ⟨rfl, hb⟩; refine Hid.out ?_)
  refine Lib.hid ?_
  have hB := hb
  clear hb
  go_wp2_with (go_at_call 15; (with_reducible refine (toSecs_any A len cap xs _ (hS0.below hB) hlen).mono ?_); rintro e w2 ⟨va, rfl, Oa, hb⟩; refine Hid.out ?_)
  refine Lib.hid ?_
  have hBs := hB.size
  have hB := bstep hB hb hB.size
  have Oa := Oa.mono hBs
  obtain ⟨AOa, cOa, rfl, -⟩ := Oa.secs
  clear hb hBs
  go_wp2_with (go_at_call 19; (with_reducible refine (sshort_any AOa _ cOa xs _ Oa.read).mono ?_); rintro e w3 ⟨vw, rfl, Ow, hb⟩; refine Hid.out ?_)
  refine Lib.hid ?_
  have hBs := hB.size
  have sep_Oa_Ow := Sep.of Oa Ow
  have hB := bstep hB hb hB.size
  have Oa := Oa.below hb
  have Ow := Ow.mono hBs
  obtain ⟨AOw, cOw, rfl, -⟩ := Ow.secs
  clear hb hBs
  go_wp2_with (go_at_call 15; (with_reducible refine (toSecs_any A len cap xs _ (hS0.below hB) hlen).mono ?_); rintro e w4 ⟨vx, rfl, Ox, hb⟩; refine Hid.out ?_)
  refine Lib.hid ?_
  have hBs := hB.size
  have sep_Oa_Ox := Sep.of Oa Ox
  have sep_Ow_Ox := Sep.of Ow Ox
  have hB := bstep hB hb hB.size
  have Oa := Oa.below hb
  have Ow := Ow.below hb
  have Ox := Ox.mono hBs
  obtain ⟨AOx, cOx, rfl, -⟩ := Ox.secs
  clear hb hBs
  go_wp2_with (go_at_call 20; (with_reducible refine (short_any AOx _ cOx xs _ Ox.read).mono ?_); rintro e w5 ⟨vg, rfl, Og, hb⟩; refine Hid.out ?_)
  refine Lib.hid ?_
  have hBs := hB.size
  have sep_Oa_Og := Sep.of Oa Og
  have sep_Ow_Og := Sep.of Ow Og
  have sep_Ox_Og := Sep.of Ox Og
  have hB := bstep hB hb hB.size
  have Oa := Oa.below hb
  have Ow := Ow.below hb
  have Ox := Ox.below hb
  have Og := Og.mono hBs
  obtain ⟨AOg, cOg, rfl, -⟩ := Og.secs
  clear hb hBs
  go_wp2_with (go_at_call 16; (with_reducible refine (eqSecs_refl AOg AOw _ cOg cOw _ _ Og.read Ow.read).mono ?_); rintro e w6 ⟨rfl, hb⟩; refine Hid.out ?_)
  refine Lib.hid ?_
  have hB := bstep hB hb hB.size
  have Oa := Oa.below hb
  have Ow := Ow.below hb
  have Ox := Ox.below hb
  have Og := Og.below hb
  clear hb
  go_wp2_with (go_at_call 15; (with_reducible refine (toSecs_any A len cap xs _ (hS0.below hB) hlen).mono ?_); rintro e w7 ⟨vy, rfl, Oy, hb⟩; refine Hid.out ?_)
  refine Lib.hid ?_
  have hBs := hB.size
  have sep_Oa_Oy := Sep.of Oa Oy
  have sep_Ow_Oy := Sep.of Ow Oy
  have sep_Ox_Oy := Sep.of Ox Oy
  have sep_Og_Oy := Sep.of Og Oy
  have hB := bstep hB hb hB.size
  have Oa := Oa.below hb
  have Ow := Ow.below hb
  have Ox := Ox.below hb
  have Og := Og.below hb
  have Oy := Oy.mono hBs
  obtain ⟨AOy, cOy, rfl, -⟩ := Oy.secs
  clear hb hBs
  go_wp2_with (go_at_call 16; (with_reducible refine (eqSecs_refl AOx AOy _ cOx cOy _ _ Ox.read Oy.read).mono ?_); rintro e w8 ⟨rfl, hb⟩; refine Hid.out ?_)
  refine Lib.hid ?_
  have hB := bstep hB hb hB.size
  have Oa := Oa.below hb
  have Ow := Ow.below hb
  have Ox := Ox.below hb
  have Og := Og.below hb
  have Oy := Oy.below hb
  clear hb
  go_wp2_with (go_at_call 17; (with_reducible refine (mark_any w.heap.size _ _ _ Ox (by omega)).mono ?_); rintro e w9 ⟨rfl, Oxm, hg⟩; refine Hid.out ?_)
  refine Lib.hid ?_
  have hBs := hB.size
  have Oa := Oa.grown hg sep_Oa_Ox
  have Ow := Ow.grown hg sep_Ow_Ox
  have Og := Og.grown hg sep_Ox_Og.symm
  have Oy := Oy.grown hg sep_Ox_Oy.symm
  have hB := hB.grown hg hBs (fun k hk => (Ox.lt k hk).1)
  have Ox := Oxm
  clear hg hBs Oxm
  go_wp2_with (go_at_call 16; (with_reducible refine (eqSecs_refl AOg AOw _ cOg cOw _ _ Og.read Ow.read).mono ?_); rintro e w10 ⟨rfl, hb⟩; refine Hid.out ?_)
  refine Lib.hid ?_
  have hB := bstep hB hb hB.size
  have Oa := Oa.below hb
  have Ow := Ow.below hb
  have Ox := Ox.below hb
  have Og := Og.below hb
  have Oy := Oy.below hb
  clear hb
  go_wp2_with (go_at_call 17; (with_reducible refine (mark_any w.heap.size _ _ _ Og (by omega)).mono ?_); rintro e w11 ⟨rfl, Ogm, hg⟩; refine Hid.out ?_)
  refine Lib.hid ?_
  have hBs := hB.size
  have Oa := Oa.grown hg sep_Oa_Og
  have Ow := Ow.grown hg sep_Ow_Og
  have Ox := Ox.grown hg sep_Ox_Og
  have Oy := Oy.grown hg sep_Og_Oy.symm
  have hB := hB.grown hg hBs (fun k hk => (Og.lt k hk).1)
  have Og := Ogm
  clear hg hBs Ogm
  go_wp2_with (go_at_call 18; (with_reducible refine (held_any AOg _ cOg _ Og.read (by omega)).mono ?_); rintro e w12 ⟨rfl, hb⟩; refine Hid.out ?_)
  refine Lib.hid ?_
  have hB := bstep hB hb hB.size
  have Oa := Oa.below hb
  have Ow := Ow.below hb
  have Ox := Ox.below hb
  have Og := Og.below hb
  have Oy := Oy.below hb
  clear hb
  go_wp2_with (go_at_call 15; (with_reducible refine (toSecs_any A len cap xs _ (hS0.below hB) hlen).mono ?_); rintro e w13 ⟨vz, rfl, Oz, hb⟩; refine Hid.out ?_)
  refine Lib.hid ?_
  have hBs := hB.size
  have sep_Oa_Oz := Sep.of Oa Oz
  have sep_Ow_Oz := Sep.of Ow Oz
  have sep_Ox_Oz := Sep.of Ox Oz
  have sep_Og_Oz := Sep.of Og Oz
  have sep_Oy_Oz := Sep.of Oy Oz
  have hB := bstep hB hb hB.size
  have Oa := Oa.below hb
  have Ow := Ow.below hb
  have Ox := Ox.below hb
  have Og := Og.below hb
  have Oy := Oy.below hb
  have Oz := Oz.mono hBs
  obtain ⟨AOz, cOz, rfl, -⟩ := Oz.secs
  clear hb hBs
  go_wp2_with (go_at_call 20; (with_reducible refine (short_any AOz _ cOz xs _ Oz.read).mono ?_); rintro e w14 ⟨vh, rfl, Oh, hb⟩; refine Hid.out ?_)
  refine Lib.hid ?_
  have hBs := hB.size
  have sep_Oa_Oh := Sep.of Oa Oh
  have sep_Ow_Oh := Sep.of Ow Oh
  have sep_Ox_Oh := Sep.of Ox Oh
  have sep_Og_Oh := Sep.of Og Oh
  have sep_Oy_Oh := Sep.of Oy Oh
  have sep_Oz_Oh := Sep.of Oz Oh
  have hB := bstep hB hb hB.size
  have Oa := Oa.below hb
  have Ow := Ow.below hb
  have Ox := Ox.below hb
  have Og := Og.below hb
  have Oy := Oy.below hb
  have Oz := Oz.below hb
  have Oh := Oh.mono hBs
  obtain ⟨AOh, cOh, rfl, -⟩ := Oh.secs
  clear hb hBs
  go_wp2_with (go_at_call 16; (with_reducible refine (eqSecs_refl AOh AOw _ cOh cOw _ _ Oh.read Ow.read).mono ?_); rintro e w15 ⟨rfl, hb⟩; refine Hid.out ?_)
  refine Lib.hid ?_
  have hB := bstep hB hb hB.size
  have Oa := Oa.below hb
  have Ow := Ow.below hb
  have Ox := Ox.below hb
  have Og := Og.below hb
  have Oy := Oy.below hb
  have Oz := Oz.below hb
  have Oh := Oh.below hb
  clear hb
  go_wp2_with (go_at_call 18; (with_reducible refine (held_any AOg _ cOg _ Og.read (by omega)).mono ?_); rintro e w16 ⟨rfl, hb⟩; refine Hid.out ?_)
  refine Lib.hid ?_
  have hB := bstep hB hb hB.size
  have Oa := Oa.below hb
  have Ow := Ow.below hb
  have Ox := Ox.below hb
  have Og := Og.below hb
  have Oy := Oy.below hb
  have Oz := Oz.below hb
  have Oh := Oh.below hb
  clear hb
  go_wp2
  go_ret
  exact ⟨rfl, hB⟩
end Go.Proofs.Ytmaifiakjlbooaa
