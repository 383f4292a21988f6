/- A desk copied, as the program does it. -/
import Derived.Test.YtjalgpioklcbfaaGreatDoorMgConsoleAP
import Derived.Test.YtjalgpioklcbfaaGreatDoorMgConsoleAA
import Derived.Test.YtjalgpioklcbfaaGreatDoorMgConsoleAJ
set_option linter.unusedVariables false
set_option linter.unusedSimpArgs false
namespace Go.Proofs.YtjalgpioklcbfaaGreatDoor
open Go.RowKit Go.Lib

theorem copyDone {w W w5 w6 w7 X V : World} {h : DkH} {d : Dk} {rh : List RnH} {A5 A6 A7 : Option Addr} {d5 d6 d7 : Nat} (hb : Below w.heap.size w W) (hz : W.heap.size = w.heap.size + 1 + 1) (b5 : Below W.heap.size W w5) (b6 : Below w5.heap.size w5 w6) (b7 : Below w6.heap.size w6 w7) (hO : Only w.heap.size (w.heap.size + 1) w7 X) (hV : Only (w.heap.size + 1) (w.heap.size + 1 + 1) X V)
  (s5 : Sl w5 W.heap.size w5.heap.size 101 3 A5 h.n1 d5 (tbs d.net.tubes)) (s6 : Sl w6 w5.heap.size w6.heap.size 2 1 A6 h.n2 d6 (ints d.times)) (s7 : OwnR w7 w6.heap.size w7.heap.size A7 h.n3 d7 d.runs rh) :
  OwnD V w.heap.size V.heap.size ⟨A5, h.n1, d5, A6, h.n2, d6, A7, h.n3, d7⟩ d rh ∧ Below w.heap.size w V := by
 have h5 := b5.size
 have h6 := b6.size
 have h7 := b7.size
 have hx := hO.size
 have hv := hV.size
 have t5 := ((((s5.on b6).on b7).apart hO (.inr (by omega))).apart hV (.inr (by omega)))
 have t6 := (((s6.on b7).apart hO (.inr (by omega))).apart hV (.inr (by omega)))
 have t7 := (s7.off (S := fun b => b = w.heap.size) ⟨hO.os, hO.tape, hO.output, hO.size, fun k hk hn => hO.block k hk (by omega)⟩ (fun b hb e => by have := (s7.inRn_lt hb).1; omega)).off (S := fun b => b = w.heap.size + 1) ⟨hV.os, hV.tape, hV.output, hV.size, fun k hk hn => hV.block k hk (by omega)⟩ (fun b hb e => by have := (s7.inRn_lt hb).1; omega)
 have bz := ((hb.trans (b5.mono (by omega))).trans (b6.mono (by omega))).trans (b7.mono (by omega))
 refine ⟨⟨t5.wide (by omega) (by omega), t6.wide (by omega) (by omega), t7.wide (by omega) (by omega), fun b hb hc => ?_, fun b hb hc => ?_, fun b hb hc => ?_⟩, (bz.trans (hO.below (Nat.le_refl _) (by omega))).trans (hV.below (by omega) (by omega))⟩
 ·have := s5.inB_lt hb; have := s6.inB_lt hc; omega
 ·have := s5.inB_lt hb; have := s7.inRn_lt hc; omega
 ·have := s6.inB_lt hb; have := s7.inRn_lt hc; omega
set_option maxHeartbeats 4000000 in
set_option maxRecDepth 100000 in
theorem copyDesk_any (h : DkH) (d : Dk) (B : Nat) (w : World) (hr : DkR w B h d) (hs : DkS h d) (hB : B ≤ w.heap.size) (hp1 : PlainA h.A1) (hp2 : PlainA h.A2) (hw : ∀ r ∈ d.runs, 1 ≤ r.way.length ∧ r.way.length ≤ 1048576) :
  Calls Tryz.prog 33 #[.agg #[.int .i64 d.net.sta, .slice h.A1 h.n1 h.c1, .slice h.A2 h.n2 h.c2, .slice h.A3 h.n3 h.c3, .string d.log]] w fun e w' => ∃ (h' : DkH) (rh : List RnH), e = .returned (dkv h' d) ∧ OwnD w' w.heap.size w'.heap.size h' d rh ∧ Below w.heap.size w w' := by
 obtain ⟨W, hW, hz, k0, k1, hb⟩ := two_al w #[.int .i64 d.net.sta, .slice h.A1 h.n1 h.c1, .slice h.A2 h.n2 h.c2, .slice h.A3 h.n3 h.c3, .string d.log] #[.int .i64 0, .slice none 0 0, .slice none 0 0, .slice none 0 0, .string ⟨#[]⟩] 32 32
 have HW := Lib.hid hW
 have HB := Lib.hid hb
 have HZ := Lib.hid hz
 have HP1 := Lib.hid hp1
 have HP2 := Lib.hid hp2
 have HWY := Lib.hid hw
 have HR1 := Lib.hid (hr.tubes.on hB hb)
 have HR2 := Lib.hid (hr.times.on hB hb)
 have HR3 := Lib.hid (hr.runs.on hB hb)
 have HBW := Lib.hid (Nat.le_trans hB hb.size)
 have HY := Lib.hid k0
 have HY2 := Lib.hid k1
 have c1 : W.drew.cell? ⟨w.heap.size, 1, none⟩ = some (.slice h.A1 h.n1 h.c1) := k0.drew.cellAt 1 (by simp)
 have c2 : W.drew.cell? ⟨w.heap.size, 2, none⟩ = some (.slice h.A2 h.n2 h.c2) := k0.drew.cellAt 2 (by simp)
 have c3 : W.drew.cell? ⟨w.heap.size, 3, none⟩ = some (.slice h.A3 h.n3 h.c3) := k0.drew.cellAt 3 (by simp)
 clear hW hz k0 k1 hb hr hp1 hp2 hw
 go_enter Tryz.func33, Tryz.ntmps33
 go_upto_region 1 with fail
 rw [← HW.out]
 refine wp_region_held_drew (S := (fun _ => True)) (by kernel_rfl) ?_ (fun hHeld => ?_)
 ·trivial
 refine tk 0 rfl ?_ ?_ ?_
 rotate_left
 ·intro w _; go_simp; try with_reducible rfl
 try simp only [Act.put, ly]
 refine tk 1 rfl ?_ ?_ ?_
 rotate_left
 ·intro w _; go_simp; try with_reducible rfl
 try simp only [Act.put, ly]
 refine tk 4 rfl ?_ ?_ ?_
 rotate_left
 ·intro w _; go_simp; try with_reducible rfl
 try simp only [Act.put, ly]
 refine tk 7 rfl ?_ ?_ ?_
 rotate_left
 ·intro w _; go_simp; try with_reducible rfl
 try simp only [Act.put, ly]
 refine wpAnyH_ready (rs := [2, 5, 8]) (by kernel_rfl) (by simp) ?_
 refine AllReadyH.cons rfl (fun K hK => ?_) ?_
 ·skip
  go_simp
  refine hK.out _ _ ?_ (fun hNew => ?_)
  ·trivial
  clear hK K hHeld
  have hHeld := hNew
  clear hNew
  try simp only [Act.put, ly]
  refine wpAnyH_ready (rs := [3, 5, 8]) (by kernel_rfl) (by simp) ?_
  refine AllReadyH.cons rfl (fun K hK => ?_) ?_
  ·skip
   go_simp
   refine (cloneT_any h.A1 h.n1 h.c1 B d.net.tubes W.drew HP1.out (HR1.out.keep fun _ _ => rfl) hs.n1).mono ?_
   rintro e w5 ⟨A5, d5, rfl, s5, b5⟩
   have HS5 := Lib.hid s5
   have HB5 := Lib.hid (show Below W.heap.size W w5 from (Below.refl _ _).drew.trans b5)
   replace c1 := cell_on b5 c1
   replace c2 := cell_on b5 c2
   replace c3 := cell_on b5 c3
   clear s5 b5
   go_wp2_with fail
   refine hK.out _ _ ?_ (fun hNew => ?_)
   ·trivial
   clear hK K hHeld
   have hHeld := hNew
   clear hNew
   try simp only [Act.put, ly]
   refine wpAnyH_ready (rs := [5, 8]) (by kernel_rfl) (by simp) ?_
   refine AllReadyH.cons rfl (fun K hK => ?_) ?_
   ·skip
    go_simp
    refine hK.out _ _ ?_ (fun hNew => ?_)
    ·trivial
    clear hK K hHeld
    have hHeld := hNew
    clear hNew
    try simp only [Act.put, ly]
    refine wpAnyH_ready (rs := [6, 8]) (by kernel_rfl) (by simp) ?_
    refine AllReadyH.cons rfl (fun K hK => ?_) ?_
    ·skip
     go_simp
     refine (cloneI_any h.A2 h.n2 h.c2 B d.times w5 HP2.out (HR2.out.on HBW.out HB5.out) hs.n2).mono ?_
     rintro e w6 ⟨A6, d6, rfl, s6, b6⟩
     have HS6 := Lib.hid s6
     have HB6 := Lib.hid b6
     replace c1 := cell_on b6 c1
     replace c2 := cell_on b6 c2
     replace c3 := cell_on b6 c3
     clear s6 b6
     go_wp2_with fail
     refine hK.out _ _ ?_ (fun hNew => ?_)
     ·trivial
     clear hK K hHeld
     have hHeld := hNew
     clear hNew
     try simp only [Act.put, ly]
     refine wpAnyH_ready (rs := [8]) (by kernel_rfl) (by simp) ?_
     refine AllReadyH.cons rfl (fun K hK => ?_) AllReadyH.nil
     go_simp
     refine hK.out _ _ ?_ (fun hNew => ?_)
     ·trivial
     clear hK K hHeld
     have hHeld := hNew
     clear hNew
     try simp only [Act.put, ly]
     refine tk 10 rfl ?_ ?_ ?_
     rotate_left
     ·intro w _; go_simp; try with_reducible rfl
     try simp only [Act.put, ly]
     refine tk 11 rfl ?_ ?_ ?_
     rotate_left
     ·intro w _; go_simp; try with_reducible rfl
     try simp only [Act.put, ly]
     refine wpAnyH_ready (rs := [9]) (by kernel_rfl) (by simp) ?_
     refine AllReadyH.cons rfl (fun K hK => ?_) AllReadyH.nil
     go_simp
     refine (copyRuns_any h.A3 h.n3 h.c3 B d.runs w6 ((HR3.out.on HBW.out HB5.out).on (Nat.le_trans HBW.out HB5.out.size) HB6.out) (Nat.le_trans (Nat.le_trans HBW.out HB5.out.size) HB6.out.size) hs.n3 HWY.out).mono ?_
     rintro e w7 ⟨A7, d7, rh, rfl, s7, b7⟩
     have HS7 := Lib.hid s7
     have HB7 := Lib.hid b7
     replace c1 := cell_on b7 c1
     replace c2 := cell_on b7 c2
     replace c3 := cell_on b7 c3
     have Y7 := ((HY.out.on HB5.out).on HB6.out).on HB7.out
     have f1 := Y7.frozen 1
     have f2 := Y7.frozen 2
     have f3 := Y7.frozen 3
     clear s7 b7
     go_wp2_with fail
     refine hK.out _ _ ?_ (fun hNew => ?_)
     ·trivial
     clear hK K hHeld
     have hHeld := hNew
     clear hNew
     try simp only [Act.put, ly]
     refine wpAnyH_ready (rs := [12]) (by kernel_rfl) (by simp) ?_
     refine AllReadyH.cons rfl (fun K hK => ?_) AllReadyH.nil
     go_simp
     refine hK.out _ _ ?_ (fun hNew => ?_)
     ·trivial
     clear hK K hHeld
     have hHeld := hNew
     clear hNew
     try simp only [Act.put, ly]
     refine tk 13 rfl ?_ ?_ ?_
     rotate_left
     ·intro w _; go_simp; try with_reducible rfl
     try simp only [Act.put, ly]
     refine wpAnyH_ready (rs := [14]) (by kernel_rfl) (by simp) ?_
     refine AllReadyH.cons rfl (fun K hK => ?_) AllReadyH.nil
     have Y8 := Y7.set_ 1 (.slice A5 h.n1 d5)
     have c2b := Y8.cellAt 2 (by simp)
     have f2b := Y8.frozen 2
     go_simp
     refine hK.out _ _ ?_ (fun hNew => ?_)
     ·trivial
     clear hK K hHeld
     have hHeld := hNew
     clear hNew
     try simp only [Act.put, ly]
     refine tk 15 rfl ?_ ?_ ?_
     rotate_left
     ·intro w _; go_simp; try with_reducible rfl
     try simp only [Act.put, ly]
     refine wpAnyH_ready (rs := [16]) (by kernel_rfl) (by simp) ?_
     refine AllReadyH.cons rfl (fun K hK => ?_) AllReadyH.nil
     have Y9 := Y8.set_ 2 (.slice A6 h.n2 d6)
     have c3b := Y9.cellAt 3 (by simp)
     have f3b := Y9.frozen 3
     go_simp
     refine hK.out _ _ ?_ (fun hNew => ?_)
     ·trivial
     clear hK K hHeld
     have hHeld := hNew
     clear hNew
     try simp only [Act.put, ly]
     refine wpAnyH_done (by kernel_rfl) ?_ _
     clear hHeld c1 c2 c3 f1 f2 f3
     have Y3 := Y9.set_ 3 (.slice A7 h.n3 d7)
     clear Y7 Y8 Y9
     have hO : Only w.heap.size (w.heap.size + 1) w7 (((w7.setCell ⟨w.heap.size, 1, none⟩ (.slice A5 h.n1 d5)).setCell ⟨w.heap.size, 2, none⟩ (.slice A6 h.n2 d6)).setCell ⟨w.heap.size, 3, none⟩ (.slice A7 h.n3 d7)) := (((Only.refl w.heap.size (w.heap.size + 1) w7).setCell (p := ⟨w.heap.size, 1, none⟩) (Nat.le_refl _) (Nat.lt_succ_self _) _).setCell (p := ⟨w.heap.size, 2, none⟩) (Nat.le_refl _) (Nat.lt_succ_self _) _).setCell (p := ⟨w.heap.size, 3, none⟩) (Nat.le_refl _) (Nat.lt_succ_self _) _
     obtain ⟨X, hX⟩ : ∃ y, ((w7.setCell ⟨w.heap.size, 1, none⟩ (.slice A5 h.n1 d5)).setCell ⟨w.heap.size, 2, none⟩ (.slice A6 h.n2 d6)).setCell ⟨w.heap.size, 3, none⟩ (.slice A7 h.n3 d7) = y := ⟨_, rfl⟩
     rw [hX] at Y3 hO ⊢
     clear hX
     have YF : Blk X w.heap.size 32 #[.int .i64 d.net.sta, .slice A5 h.n1 d5, .slice A6 h.n2 d6, .slice A7 h.n3 d7, .string d.log] := by simpa using Y3
     have YZ := (((HY2.out.on HB5.out).on HB6.out).on HB7.out).keepOnly hO (.inr (Nat.le_refl _))
     have HYZ := Lib.hid YZ
     have HOX := Lib.hid hO
     have x0 := YF.cellAt 0 (by simp)
     have x1 := YF.cellAt 1 (by simp)
     have x2 := YF.cellAt 2 (by simp)
     have x3 := YF.cellAt 3 (by simp)
     have x4 := YF.cellAt 4 (by simp)
     have z0 := YZ.cellAt 0 (by simp)
     have z1 := YZ.cellAt 1 (by simp)
     have z2 := YZ.cellAt 2 (by simp)
     have z3 := YZ.cellAt 3 (by simp)
     have z4 := YZ.cellAt 4 (by simp)
     simp only [List.getElem_toArray, List.getElem_cons_zero, List.getElem_cons_succ] at x0 x1 x2 x3 x4 z0 z1 z2 z3 z4
     obtain ⟨g0, g1, g2, g3, g4⟩ := frozen5 YZ
     have yl := YZ.lt
     clear Y3 hO YF YZ
     go_wp2
     obtain ⟨q1, q2, q3⟩ := store5 HYZ.out (.int .i64 d.net.sta) (.slice A5 h.n1 d5) (.slice A6 h.n2 d6) (.slice A7 h.n3 d7) (.string d.log)
     obtain ⟨r0, r1, r2, r3, r4⟩ := cells5 q1
     obtain ⟨V, hV⟩ : ∃ y, (((((X.setCell ⟨w.heap.size + 1, 0, none⟩ (.int .i64 d.net.sta)).setCell ⟨w.heap.size + 1, 1, none⟩ (.slice A5 h.n1 d5)).setCell ⟨w.heap.size + 1, 2, none⟩ (.slice A6 h.n2 d6)).setCell ⟨w.heap.size + 1, 3, none⟩ (.slice A7 h.n3 d7)).setCell ⟨w.heap.size + 1, 4, none⟩ (.string d.log)) = y := ⟨_, rfl⟩
     rw [hV] at q3 r0 r1 r2 r3 r4 ⊢
     have hd := copyDone HB.out HZ.out HB5.out HB6.out HB7.out HOX.out q3 HS5.out HS6.out HS7.out
     exact bodyPost_ret (v := .agg #[.int .i64 d.net.sta, .slice A5 h.n1 d5, .slice A6 h.n2 d6, .slice A7 h.n3 d7, .string d.log]) (by simp [results, Tryz.results33, go_sem, r0, r1, r2, r3, r4]) rfl ⟨⟨A5, h.n1, d5, A6, h.n2, d6, A7, h.n3, d7⟩, rh, rfl, hd.1, hd.2⟩
    refine AllReadyH.cons rfl (fun K hK => ?_) ?_
    ·skip
     go_simp
     refine hK.out _ _ ?_ (fun hNew => ?_)
     ·trivial
     clear hK K hHeld
     have hHeld := hNew
     clear hNew
     try simp only [Act.put, ly]
     refine tk 10 rfl ?_ ?_ ?_
     rotate_left
     ·intro w _; go_simp; try with_reducible rfl
     try simp only [Act.put, ly]
     refine tk 11 rfl ?_ ?_ ?_
     rotate_left
     ·intro w _; go_simp; try with_reducible rfl
     try simp only [Act.put, ly]
     refine wpAnyH_ready (rs := [6]) (by kernel_rfl) (by simp) ?_
     refine AllReadyH.cons rfl (fun K hK => ?_) AllReadyH.nil
     go_simp
     refine (cloneI_any h.A2 h.n2 h.c2 B d.times w5 HP2.out (HR2.out.on HBW.out HB5.out) hs.n2).mono ?_
     rintro e w6 ⟨A6, d6, rfl, s6, b6⟩
     have HS6 := Lib.hid s6
     have HB6 := Lib.hid b6
     replace c1 := cell_on b6 c1
     replace c2 := cell_on b6 c2
     replace c3 := cell_on b6 c3
     clear s6 b6
     go_wp2_with fail
     refine hK.out _ _ ?_ (fun hNew => ?_)
     ·trivial
     clear hK K hHeld
     have hHeld := hNew
     clear hNew
     try simp only [Act.put, ly]
     refine wpAnyH_ready (rs := [9]) (by kernel_rfl) (by simp) ?_
     refine AllReadyH.cons rfl (fun K hK => ?_) AllReadyH.nil
     go_simp
     refine (copyRuns_any h.A3 h.n3 h.c3 B d.runs w6 ((HR3.out.on HBW.out HB5.out).on (Nat.le_trans HBW.out HB5.out.size) HB6.out) (Nat.le_trans (Nat.le_trans HBW.out HB5.out.size) HB6.out.size) hs.n3 HWY.out).mono ?_
     rintro e w7 ⟨A7, d7, rh, rfl, s7, b7⟩
     have HS7 := Lib.hid s7
     have HB7 := Lib.hid b7
     replace c1 := cell_on b7 c1
     replace c2 := cell_on b7 c2
     replace c3 := cell_on b7 c3
     have Y7 := ((HY.out.on HB5.out).on HB6.out).on HB7.out
     have f1 := Y7.frozen 1
     have f2 := Y7.frozen 2
     have f3 := Y7.frozen 3
     clear s7 b7
     go_wp2_with fail
     refine hK.out _ _ ?_ (fun hNew => ?_)
     ·trivial
     clear hK K hHeld
     have hHeld := hNew
     clear hNew
     try simp only [Act.put, ly]
     refine wpAnyH_ready (rs := [12]) (by kernel_rfl) (by simp) ?_
     refine AllReadyH.cons rfl (fun K hK => ?_) AllReadyH.nil
     go_simp
     refine hK.out _ _ ?_ (fun hNew => ?_)
     ·trivial
     clear hK K hHeld
     have hHeld := hNew
     clear hNew
     try simp only [Act.put, ly]
     refine tk 13 rfl ?_ ?_ ?_
     rotate_left
     ·intro w _; go_simp; try with_reducible rfl
     try simp only [Act.put, ly]
     refine wpAnyH_ready (rs := [14]) (by kernel_rfl) (by simp) ?_
     refine AllReadyH.cons rfl (fun K hK => ?_) AllReadyH.nil
     have Y8 := Y7.set_ 1 (.slice A5 h.n1 d5)
     have c2b := Y8.cellAt 2 (by simp)
     have f2b := Y8.frozen 2
     go_simp
     refine hK.out _ _ ?_ (fun hNew => ?_)
     ·trivial
     clear hK K hHeld
     have hHeld := hNew
     clear hNew
     try simp only [Act.put, ly]
     refine tk 15 rfl ?_ ?_ ?_
     rotate_left
     ·intro w _; go_simp; try with_reducible rfl
     try simp only [Act.put, ly]
     refine wpAnyH_ready (rs := [16]) (by kernel_rfl) (by simp) ?_
     refine AllReadyH.cons rfl (fun K hK => ?_) AllReadyH.nil
     have Y9 := Y8.set_ 2 (.slice A6 h.n2 d6)
     have c3b := Y9.cellAt 3 (by simp)
     have f3b := Y9.frozen 3
     go_simp
     refine hK.out _ _ ?_ (fun hNew => ?_)
     ·trivial
     clear hK K hHeld
     have hHeld := hNew
     clear hNew
     try simp only [Act.put, ly]
     refine wpAnyH_done (by kernel_rfl) ?_ _
     clear hHeld c1 c2 c3 f1 f2 f3
     have Y3 := Y9.set_ 3 (.slice A7 h.n3 d7)
     clear Y7 Y8 Y9
     have hO : Only w.heap.size (w.heap.size + 1) w7 (((w7.setCell ⟨w.heap.size, 1, none⟩ (.slice A5 h.n1 d5)).setCell ⟨w.heap.size, 2, none⟩ (.slice A6 h.n2 d6)).setCell ⟨w.heap.size, 3, none⟩ (.slice A7 h.n3 d7)) := (((Only.refl w.heap.size (w.heap.size + 1) w7).setCell (p := ⟨w.heap.size, 1, none⟩) (Nat.le_refl _) (Nat.lt_succ_self _) _).setCell (p := ⟨w.heap.size, 2, none⟩) (Nat.le_refl _) (Nat.lt_succ_self _) _).setCell (p := ⟨w.heap.size, 3, none⟩) (Nat.le_refl _) (Nat.lt_succ_self _) _
     obtain ⟨X, hX⟩ : ∃ y, ((w7.setCell ⟨w.heap.size, 1, none⟩ (.slice A5 h.n1 d5)).setCell ⟨w.heap.size, 2, none⟩ (.slice A6 h.n2 d6)).setCell ⟨w.heap.size, 3, none⟩ (.slice A7 h.n3 d7) = y := ⟨_, rfl⟩
     rw [hX] at Y3 hO ⊢
     clear hX
     have YF : Blk X w.heap.size 32 #[.int .i64 d.net.sta, .slice A5 h.n1 d5, .slice A6 h.n2 d6, .slice A7 h.n3 d7, .string d.log] := by simpa using Y3
     have YZ := (((HY2.out.on HB5.out).on HB6.out).on HB7.out).keepOnly hO (.inr (Nat.le_refl _))
     have HYZ := Lib.hid YZ
     have HOX := Lib.hid hO
     have x0 := YF.cellAt 0 (by simp)
     have x1 := YF.cellAt 1 (by simp)
     have x2 := YF.cellAt 2 (by simp)
     have x3 := YF.cellAt 3 (by simp)
     have x4 := YF.cellAt 4 (by simp)
     have z0 := YZ.cellAt 0 (by simp)
     have z1 := YZ.cellAt 1 (by simp)
     have z2 := YZ.cellAt 2 (by simp)
     have z3 := YZ.cellAt 3 (by simp)
     have z4 := YZ.cellAt 4 (by simp)
     simp only [List.getElem_toArray, List.getElem_cons_zero, List.getElem_cons_succ] at x0 x1 x2 x3 x4 z0 z1 z2 z3 z4
     obtain ⟨g0, g1, g2, g3, g4⟩ := frozen5 YZ
     have yl := YZ.lt
     clear Y3 hO YF YZ
     go_wp2
     obtain ⟨q1, q2, q3⟩ := store5 HYZ.out (.int .i64 d.net.sta) (.slice A5 h.n1 d5) (.slice A6 h.n2 d6) (.slice A7 h.n3 d7) (.string d.log)
     obtain ⟨r0, r1, r2, r3, r4⟩ := cells5 q1
     obtain ⟨V, hV⟩ : ∃ y, (((((X.setCell ⟨w.heap.size + 1, 0, none⟩ (.int .i64 d.net.sta)).setCell ⟨w.heap.size + 1, 1, none⟩ (.slice A5 h.n1 d5)).setCell ⟨w.heap.size + 1, 2, none⟩ (.slice A6 h.n2 d6)).setCell ⟨w.heap.size + 1, 3, none⟩ (.slice A7 h.n3 d7)).setCell ⟨w.heap.size + 1, 4, none⟩ (.string d.log)) = y := ⟨_, rfl⟩
     rw [hV] at q3 r0 r1 r2 r3 r4 ⊢
     have hd := copyDone HB.out HZ.out HB5.out HB6.out HB7.out HOX.out q3 HS5.out HS6.out HS7.out
     exact bodyPost_ret (v := .agg #[.int .i64 d.net.sta, .slice A5 h.n1 d5, .slice A6 h.n2 d6, .slice A7 h.n3 d7, .string d.log]) (by simp [results, Tryz.results33, go_sem, r0, r1, r2, r3, r4]) rfl ⟨⟨A5, h.n1, d5, A6, h.n2, d6, A7, h.n3, d7⟩, rh, rfl, hd.1, hd.2⟩
    exact AllReadyH.nil
   refine AllReadyH.cons rfl (fun K hK => ?_) ?_
   ·skip
    go_simp
    refine hK.out _ _ ?_ (fun hNew => ?_)
    ·trivial
    clear hK K hHeld
    have hHeld := hNew
    clear hNew
    try simp only [Act.put, ly]
    refine wpAnyH_ready (rs := [5]) (by kernel_rfl) (by simp) ?_
    refine AllReadyH.cons rfl (fun K hK => ?_) AllReadyH.nil
    go_simp
    refine hK.out _ _ ?_ (fun hNew => ?_)
    ·trivial
    clear hK K hHeld
    have hHeld := hNew
    clear hNew
    try simp only [Act.put, ly]
    refine tk 10 rfl ?_ ?_ ?_
    rotate_left
    ·intro w _; go_simp; try with_reducible rfl
    try simp only [Act.put, ly]
    refine tk 11 rfl ?_ ?_ ?_
    rotate_left
    ·intro w _; go_simp; try with_reducible rfl
    try simp only [Act.put, ly]
    refine wpAnyH_ready (rs := [6]) (by kernel_rfl) (by simp) ?_
    refine AllReadyH.cons rfl (fun K hK => ?_) AllReadyH.nil
    go_simp
    refine (cloneI_any h.A2 h.n2 h.c2 B d.times w5 HP2.out (HR2.out.on HBW.out HB5.out) hs.n2).mono ?_
    rintro e w6 ⟨A6, d6, rfl, s6, b6⟩
    have HS6 := Lib.hid s6
    have HB6 := Lib.hid b6
    replace c1 := cell_on b6 c1
    replace c2 := cell_on b6 c2
    replace c3 := cell_on b6 c3
    clear s6 b6
    go_wp2_with fail
    refine hK.out _ _ ?_ (fun hNew => ?_)
    ·trivial
    clear hK K hHeld
    have hHeld := hNew
    clear hNew
    try simp only [Act.put, ly]
    refine wpAnyH_ready (rs := [9]) (by kernel_rfl) (by simp) ?_
    refine AllReadyH.cons rfl (fun K hK => ?_) AllReadyH.nil
    go_simp
    refine (copyRuns_any h.A3 h.n3 h.c3 B d.runs w6 ((HR3.out.on HBW.out HB5.out).on (Nat.le_trans HBW.out HB5.out.size) HB6.out) (Nat.le_trans (Nat.le_trans HBW.out HB5.out.size) HB6.out.size) hs.n3 HWY.out).mono ?_
    rintro e w7 ⟨A7, d7, rh, rfl, s7, b7⟩
    have HS7 := Lib.hid s7
    have HB7 := Lib.hid b7
    replace c1 := cell_on b7 c1
    replace c2 := cell_on b7 c2
    replace c3 := cell_on b7 c3
    have Y7 := ((HY.out.on HB5.out).on HB6.out).on HB7.out
    have f1 := Y7.frozen 1
    have f2 := Y7.frozen 2
    have f3 := Y7.frozen 3
    clear s7 b7
    go_wp2_with fail
    refine hK.out _ _ ?_ (fun hNew => ?_)
    ·trivial
    clear hK K hHeld
    have hHeld := hNew
    clear hNew
    try simp only [Act.put, ly]
    refine wpAnyH_ready (rs := [12]) (by kernel_rfl) (by simp) ?_
    refine AllReadyH.cons rfl (fun K hK => ?_) AllReadyH.nil
    go_simp
    refine hK.out _ _ ?_ (fun hNew => ?_)
    ·trivial
    clear hK K hHeld
    have hHeld := hNew
    clear hNew
    try simp only [Act.put, ly]
    refine tk 13 rfl ?_ ?_ ?_
    rotate_left
    ·intro w _; go_simp; try with_reducible rfl
    try simp only [Act.put, ly]
    refine wpAnyH_ready (rs := [14]) (by kernel_rfl) (by simp) ?_
    refine AllReadyH.cons rfl (fun K hK => ?_) AllReadyH.nil
    have Y8 := Y7.set_ 1 (.slice A5 h.n1 d5)
    have c2b := Y8.cellAt 2 (by simp)
    have f2b := Y8.frozen 2
    go_simp
    refine hK.out _ _ ?_ (fun hNew => ?_)
    ·trivial
    clear hK K hHeld
    have hHeld := hNew
    clear hNew
    try simp only [Act.put, ly]
    refine tk 15 rfl ?_ ?_ ?_
    rotate_left
    ·intro w _; go_simp; try with_reducible rfl
    try simp only [Act.put, ly]
    refine wpAnyH_ready (rs := [16]) (by kernel_rfl) (by simp) ?_
    refine AllReadyH.cons rfl (fun K hK => ?_) AllReadyH.nil
    have Y9 := Y8.set_ 2 (.slice A6 h.n2 d6)
    have c3b := Y9.cellAt 3 (by simp)
    have f3b := Y9.frozen 3
    go_simp
    refine hK.out _ _ ?_ (fun hNew => ?_)
    ·trivial
    clear hK K hHeld
    have hHeld := hNew
    clear hNew
    try simp only [Act.put, ly]
    refine wpAnyH_done (by kernel_rfl) ?_ _
    clear hHeld c1 c2 c3 f1 f2 f3
    have Y3 := Y9.set_ 3 (.slice A7 h.n3 d7)
    clear Y7 Y8 Y9
    have hO : Only w.heap.size (w.heap.size + 1) w7 (((w7.setCell ⟨w.heap.size, 1, none⟩ (.slice A5 h.n1 d5)).setCell ⟨w.heap.size, 2, none⟩ (.slice A6 h.n2 d6)).setCell ⟨w.heap.size, 3, none⟩ (.slice A7 h.n3 d7)) := (((Only.refl w.heap.size (w.heap.size + 1) w7).setCell (p := ⟨w.heap.size, 1, none⟩) (Nat.le_refl _) (Nat.lt_succ_self _) _).setCell (p := ⟨w.heap.size, 2, none⟩) (Nat.le_refl _) (Nat.lt_succ_self _) _).setCell (p := ⟨w.heap.size, 3, none⟩) (Nat.le_refl _) (Nat.lt_succ_self _) _
    obtain ⟨X, hX⟩ : ∃ y, ((w7.setCell ⟨w.heap.size, 1, none⟩ (.slice A5 h.n1 d5)).setCell ⟨w.heap.size, 2, none⟩ (.slice A6 h.n2 d6)).setCell ⟨w.heap.size, 3, none⟩ (.slice A7 h.n3 d7) = y := ⟨_, rfl⟩
    rw [hX] at Y3 hO ⊢
    clear hX
    have YF : Blk X w.heap.size 32 #[.int .i64 d.net.sta, .slice A5 h.n1 d5, .slice A6 h.n2 d6, .slice A7 h.n3 d7, .string d.log] := by simpa using Y3
    have YZ := (((HY2.out.on HB5.out).on HB6.out).on HB7.out).keepOnly hO (.inr (Nat.le_refl _))
    have HYZ := Lib.hid YZ
    have HOX := Lib.hid hO
    have x0 := YF.cellAt 0 (by simp)
    have x1 := YF.cellAt 1 (by simp)
    have x2 := YF.cellAt 2 (by simp)
    have x3 := YF.cellAt 3 (by simp)
    have x4 := YF.cellAt 4 (by simp)
    have z0 := YZ.cellAt 0 (by simp)
    have z1 := YZ.cellAt 1 (by simp)
    have z2 := YZ.cellAt 2 (by simp)
    have z3 := YZ.cellAt 3 (by simp)
    have z4 := YZ.cellAt 4 (by simp)
    simp only [List.getElem_toArray, List.getElem_cons_zero, List.getElem_cons_succ] at x0 x1 x2 x3 x4 z0 z1 z2 z3 z4
    obtain ⟨g0, g1, g2, g3, g4⟩ := frozen5 YZ
    have yl := YZ.lt
    clear Y3 hO YF YZ
    go_wp2
    obtain ⟨q1, q2, q3⟩ := store5 HYZ.out (.int .i64 d.net.sta) (.slice A5 h.n1 d5) (.slice A6 h.n2 d6) (.slice A7 h.n3 d7) (.string d.log)
    obtain ⟨r0, r1, r2, r3, r4⟩ := cells5 q1
    obtain ⟨V, hV⟩ : ∃ y, (((((X.setCell ⟨w.heap.size + 1, 0, none⟩ (.int .i64 d.net.sta)).setCell ⟨w.heap.size + 1, 1, none⟩ (.slice A5 h.n1 d5)).setCell ⟨w.heap.size + 1, 2, none⟩ (.slice A6 h.n2 d6)).setCell ⟨w.heap.size + 1, 3, none⟩ (.slice A7 h.n3 d7)).setCell ⟨w.heap.size + 1, 4, none⟩ (.string d.log)) = y := ⟨_, rfl⟩
    rw [hV] at q3 r0 r1 r2 r3 r4 ⊢
    have hd := copyDone HB.out HZ.out HB5.out HB6.out HB7.out HOX.out q3 HS5.out HS6.out HS7.out
    exact bodyPost_ret (v := .agg #[.int .i64 d.net.sta, .slice A5 h.n1 d5, .slice A6 h.n2 d6, .slice A7 h.n3 d7, .string d.log]) (by simp [results, Tryz.results33, go_sem, r0, r1, r2, r3, r4]) rfl ⟨⟨A5, h.n1, d5, A6, h.n2, d6, A7, h.n3, d7⟩, rh, rfl, hd.1, hd.2⟩
   exact AllReadyH.nil
  refine AllReadyH.cons rfl (fun K hK => ?_) ?_
  ·skip
   go_simp
   refine hK.out _ _ ?_ (fun hNew => ?_)
   ·trivial
   clear hK K hHeld
   have hHeld := hNew
   clear hNew
   try simp only [Act.put, ly]
   refine wpAnyH_ready (rs := [3, 8]) (by kernel_rfl) (by simp) ?_
   refine AllReadyH.cons rfl (fun K hK => ?_) ?_
   ·skip
    go_simp
    refine (cloneT_any h.A1 h.n1 h.c1 B d.net.tubes W.drew HP1.out (HR1.out.keep fun _ _ => rfl) hs.n1).mono ?_
    rintro e w5 ⟨A5, d5, rfl, s5, b5⟩
    have HS5 := Lib.hid s5
    have HB5 := Lib.hid (show Below W.heap.size W w5 from (Below.refl _ _).drew.trans b5)
    replace c1 := cell_on b5 c1
    replace c2 := cell_on b5 c2
    replace c3 := cell_on b5 c3
    clear s5 b5
    go_wp2_with fail
    refine hK.out _ _ ?_ (fun hNew => ?_)
    ·trivial
    clear hK K hHeld
    have hHeld := hNew
    clear hNew
    try simp only [Act.put, ly]
    refine wpAnyH_ready (rs := [6, 8]) (by kernel_rfl) (by simp) ?_
    refine AllReadyH.cons rfl (fun K hK => ?_) ?_
    ·skip
     go_simp
     refine (cloneI_any h.A2 h.n2 h.c2 B d.times w5 HP2.out (HR2.out.on HBW.out HB5.out) hs.n2).mono ?_
     rintro e w6 ⟨A6, d6, rfl, s6, b6⟩
     have HS6 := Lib.hid s6
     have HB6 := Lib.hid b6
     replace c1 := cell_on b6 c1
     replace c2 := cell_on b6 c2
     replace c3 := cell_on b6 c3
     clear s6 b6
     go_wp2_with fail
     refine hK.out _ _ ?_ (fun hNew => ?_)
     ·trivial
     clear hK K hHeld
     have hHeld := hNew
     clear hNew
     try simp only [Act.put, ly]
     refine wpAnyH_ready (rs := [8]) (by kernel_rfl) (by simp) ?_
     refine AllReadyH.cons rfl (fun K hK => ?_) AllReadyH.nil
     go_simp
     refine hK.out _ _ ?_ (fun hNew => ?_)
     ·trivial
     clear hK K hHeld
     have hHeld := hNew
     clear hNew
     try simp only [Act.put, ly]
     refine tk 10 rfl ?_ ?_ ?_
     rotate_left
     ·intro w _; go_simp; try with_reducible rfl
     try simp only [Act.put, ly]
     refine tk 11 rfl ?_ ?_ ?_
     rotate_left
     ·intro w _; go_simp; try with_reducible rfl
     try simp only [Act.put, ly]
     refine wpAnyH_ready (rs := [9]) (by kernel_rfl) (by simp) ?_
     refine AllReadyH.cons rfl (fun K hK => ?_) AllReadyH.nil
     go_simp
     refine (copyRuns_any h.A3 h.n3 h.c3 B d.runs w6 ((HR3.out.on HBW.out HB5.out).on (Nat.le_trans HBW.out HB5.out.size) HB6.out) (Nat.le_trans (Nat.le_trans HBW.out HB5.out.size) HB6.out.size) hs.n3 HWY.out).mono ?_
     rintro e w7 ⟨A7, d7, rh, rfl, s7, b7⟩
     have HS7 := Lib.hid s7
     have HB7 := Lib.hid b7
     replace c1 := cell_on b7 c1
     replace c2 := cell_on b7 c2
     replace c3 := cell_on b7 c3
     have Y7 := ((HY.out.on HB5.out).on HB6.out).on HB7.out
     have f1 := Y7.frozen 1
     have f2 := Y7.frozen 2
     have f3 := Y7.frozen 3
     clear s7 b7
     go_wp2_with fail
     refine hK.out _ _ ?_ (fun hNew => ?_)
     ·trivial
     clear hK K hHeld
     have hHeld := hNew
     clear hNew
     try simp only [Act.put, ly]
     refine wpAnyH_ready (rs := [12]) (by kernel_rfl) (by simp) ?_
     refine AllReadyH.cons rfl (fun K hK => ?_) AllReadyH.nil
     go_simp
     refine hK.out _ _ ?_ (fun hNew => ?_)
     ·trivial
     clear hK K hHeld
     have hHeld := hNew
     clear hNew
     try simp only [Act.put, ly]
     refine tk 13 rfl ?_ ?_ ?_
     rotate_left
     ·intro w _; go_simp; try with_reducible rfl
     try simp only [Act.put, ly]
     refine wpAnyH_ready (rs := [14]) (by kernel_rfl) (by simp) ?_
     refine AllReadyH.cons rfl (fun K hK => ?_) AllReadyH.nil
     have Y8 := Y7.set_ 1 (.slice A5 h.n1 d5)
     have c2b := Y8.cellAt 2 (by simp)
     have f2b := Y8.frozen 2
     go_simp
     refine hK.out _ _ ?_ (fun hNew => ?_)
     ·trivial
     clear hK K hHeld
     have hHeld := hNew
     clear hNew
     try simp only [Act.put, ly]
     refine tk 15 rfl ?_ ?_ ?_
     rotate_left
     ·intro w _; go_simp; try with_reducible rfl
     try simp only [Act.put, ly]
     refine wpAnyH_ready (rs := [16]) (by kernel_rfl) (by simp) ?_
     refine AllReadyH.cons rfl (fun K hK => ?_) AllReadyH.nil
     have Y9 := Y8.set_ 2 (.slice A6 h.n2 d6)
     have c3b := Y9.cellAt 3 (by simp)
     have f3b := Y9.frozen 3
     go_simp
     refine hK.out _ _ ?_ (fun hNew => ?_)
     ·trivial
     clear hK K hHeld
     have hHeld := hNew
     clear hNew
     try simp only [Act.put, ly]
     refine wpAnyH_done (by kernel_rfl) ?_ _
     clear hHeld c1 c2 c3 f1 f2 f3
     have Y3 := Y9.set_ 3 (.slice A7 h.n3 d7)
     clear Y7 Y8 Y9
     have hO : Only w.heap.size (w.heap.size + 1) w7 (((w7.setCell ⟨w.heap.size, 1, none⟩ (.slice A5 h.n1 d5)).setCell ⟨w.heap.size, 2, none⟩ (.slice A6 h.n2 d6)).setCell ⟨w.heap.size, 3, none⟩ (.slice A7 h.n3 d7)) := (((Only.refl w.heap.size (w.heap.size + 1) w7).setCell (p := ⟨w.heap.size, 1, none⟩) (Nat.le_refl _) (Nat.lt_succ_self _) _).setCell (p := ⟨w.heap.size, 2, none⟩) (Nat.le_refl _) (Nat.lt_succ_self _) _).setCell (p := ⟨w.heap.size, 3, none⟩) (Nat.le_refl _) (Nat.lt_succ_self _) _
     obtain ⟨X, hX⟩ : ∃ y, ((w7.setCell ⟨w.heap.size, 1, none⟩ (.slice A5 h.n1 d5)).setCell ⟨w.heap.size, 2, none⟩ (.slice A6 h.n2 d6)).setCell ⟨w.heap.size, 3, none⟩ (.slice A7 h.n3 d7) = y := ⟨_, rfl⟩
     rw [hX] at Y3 hO ⊢
     clear hX
     have YF : Blk X w.heap.size 32 #[.int .i64 d.net.sta, .slice A5 h.n1 d5, .slice A6 h.n2 d6, .slice A7 h.n3 d7, .string d.log] := by simpa using Y3
     have YZ := (((HY2.out.on HB5.out).on HB6.out).on HB7.out).keepOnly hO (.inr (Nat.le_refl _))
     have HYZ := Lib.hid YZ
     have HOX := Lib.hid hO
     have x0 := YF.cellAt 0 (by simp)
     have x1 := YF.cellAt 1 (by simp)
     have x2 := YF.cellAt 2 (by simp)
     have x3 := YF.cellAt 3 (by simp)
     have x4 := YF.cellAt 4 (by simp)
     have z0 := YZ.cellAt 0 (by simp)
     have z1 := YZ.cellAt 1 (by simp)
     have z2 := YZ.cellAt 2 (by simp)
     have z3 := YZ.cellAt 3 (by simp)
     have z4 := YZ.cellAt 4 (by simp)
     simp only [List.getElem_toArray, List.getElem_cons_zero, List.getElem_cons_succ] at x0 x1 x2 x3 x4 z0 z1 z2 z3 z4
     obtain ⟨g0, g1, g2, g3, g4⟩ := frozen5 YZ
     have yl := YZ.lt
     clear Y3 hO YF YZ
     go_wp2
     obtain ⟨q1, q2, q3⟩ := store5 HYZ.out (.int .i64 d.net.sta) (.slice A5 h.n1 d5) (.slice A6 h.n2 d6) (.slice A7 h.n3 d7) (.string d.log)
     obtain ⟨r0, r1, r2, r3, r4⟩ := cells5 q1
     obtain ⟨V, hV⟩ : ∃ y, (((((X.setCell ⟨w.heap.size + 1, 0, none⟩ (.int .i64 d.net.sta)).setCell ⟨w.heap.size + 1, 1, none⟩ (.slice A5 h.n1 d5)).setCell ⟨w.heap.size + 1, 2, none⟩ (.slice A6 h.n2 d6)).setCell ⟨w.heap.size + 1, 3, none⟩ (.slice A7 h.n3 d7)).setCell ⟨w.heap.size + 1, 4, none⟩ (.string d.log)) = y := ⟨_, rfl⟩
     rw [hV] at q3 r0 r1 r2 r3 r4 ⊢
     have hd := copyDone HB.out HZ.out HB5.out HB6.out HB7.out HOX.out q3 HS5.out HS6.out HS7.out
     exact bodyPost_ret (v := .agg #[.int .i64 d.net.sta, .slice A5 h.n1 d5, .slice A6 h.n2 d6, .slice A7 h.n3 d7, .string d.log]) (by simp [results, Tryz.results33, go_sem, r0, r1, r2, r3, r4]) rfl ⟨⟨A5, h.n1, d5, A6, h.n2, d6, A7, h.n3, d7⟩, rh, rfl, hd.1, hd.2⟩
    refine AllReadyH.cons rfl (fun K hK => ?_) ?_
    ·skip
     go_simp
     refine hK.out _ _ ?_ (fun hNew => ?_)
     ·trivial
     clear hK K hHeld
     have hHeld := hNew
     clear hNew
     try simp only [Act.put, ly]
     refine tk 10 rfl ?_ ?_ ?_
     rotate_left
     ·intro w _; go_simp; try with_reducible rfl
     try simp only [Act.put, ly]
     refine tk 11 rfl ?_ ?_ ?_
     rotate_left
     ·intro w _; go_simp; try with_reducible rfl
     try simp only [Act.put, ly]
     refine wpAnyH_ready (rs := [6]) (by kernel_rfl) (by simp) ?_
     refine AllReadyH.cons rfl (fun K hK => ?_) AllReadyH.nil
     go_simp
     refine (cloneI_any h.A2 h.n2 h.c2 B d.times w5 HP2.out (HR2.out.on HBW.out HB5.out) hs.n2).mono ?_
     rintro e w6 ⟨A6, d6, rfl, s6, b6⟩
     have HS6 := Lib.hid s6
     have HB6 := Lib.hid b6
     replace c1 := cell_on b6 c1
     replace c2 := cell_on b6 c2
     replace c3 := cell_on b6 c3
     clear s6 b6
     go_wp2_with fail
     refine hK.out _ _ ?_ (fun hNew => ?_)
     ·trivial
     clear hK K hHeld
     have hHeld := hNew
     clear hNew
     try simp only [Act.put, ly]
     refine wpAnyH_ready (rs := [9]) (by kernel_rfl) (by simp) ?_
     refine AllReadyH.cons rfl (fun K hK => ?_) AllReadyH.nil
     go_simp
     refine (copyRuns_any h.A3 h.n3 h.c3 B d.runs w6 ((HR3.out.on HBW.out HB5.out).on (Nat.le_trans HBW.out HB5.out.size) HB6.out) (Nat.le_trans (Nat.le_trans HBW.out HB5.out.size) HB6.out.size) hs.n3 HWY.out).mono ?_
     rintro e w7 ⟨A7, d7, rh, rfl, s7, b7⟩
     have HS7 := Lib.hid s7
     have HB7 := Lib.hid b7
     replace c1 := cell_on b7 c1
     replace c2 := cell_on b7 c2
     replace c3 := cell_on b7 c3
     have Y7 := ((HY.out.on HB5.out).on HB6.out).on HB7.out
     have f1 := Y7.frozen 1
     have f2 := Y7.frozen 2
     have f3 := Y7.frozen 3
     clear s7 b7
     go_wp2_with fail
     refine hK.out _ _ ?_ (fun hNew => ?_)
     ·trivial
     clear hK K hHeld
     have hHeld := hNew
     clear hNew
     try simp only [Act.put, ly]
     refine wpAnyH_ready (rs := [12]) (by kernel_rfl) (by simp) ?_
     refine AllReadyH.cons rfl (fun K hK => ?_) AllReadyH.nil
     go_simp
     refine hK.out _ _ ?_ (fun hNew => ?_)
     ·trivial
     clear hK K hHeld
     have hHeld := hNew
     clear hNew
     try simp only [Act.put, ly]
     refine tk 13 rfl ?_ ?_ ?_
     rotate_left
     ·intro w _; go_simp; try with_reducible rfl
     try simp only [Act.put, ly]
     refine wpAnyH_ready (rs := [14]) (by kernel_rfl) (by simp) ?_
     refine AllReadyH.cons rfl (fun K hK => ?_) AllReadyH.nil
     have Y8 := Y7.set_ 1 (.slice A5 h.n1 d5)
     have c2b := Y8.cellAt 2 (by simp)
     have f2b := Y8.frozen 2
     go_simp
     refine hK.out _ _ ?_ (fun hNew => ?_)
     ·trivial
     clear hK K hHeld
     have hHeld := hNew
     clear hNew
     try simp only [Act.put, ly]
     refine tk 15 rfl ?_ ?_ ?_
     rotate_left
     ·intro w _; go_simp; try with_reducible rfl
     try simp only [Act.put, ly]
     refine wpAnyH_ready (rs := [16]) (by kernel_rfl) (by simp) ?_
     refine AllReadyH.cons rfl (fun K hK => ?_) AllReadyH.nil
     have Y9 := Y8.set_ 2 (.slice A6 h.n2 d6)
     have c3b := Y9.cellAt 3 (by simp)
     have f3b := Y9.frozen 3
     go_simp
     refine hK.out _ _ ?_ (fun hNew => ?_)
     ·trivial
     clear hK K hHeld
     have hHeld := hNew
     clear hNew
     try simp only [Act.put, ly]
     refine wpAnyH_done (by kernel_rfl) ?_ _
     clear hHeld c1 c2 c3 f1 f2 f3
     have Y3 := Y9.set_ 3 (.slice A7 h.n3 d7)
     clear Y7 Y8 Y9
     have hO : Only w.heap.size (w.heap.size + 1) w7 (((w7.setCell ⟨w.heap.size, 1, none⟩ (.slice A5 h.n1 d5)).setCell ⟨w.heap.size, 2, none⟩ (.slice A6 h.n2 d6)).setCell ⟨w.heap.size, 3, none⟩ (.slice A7 h.n3 d7)) := (((Only.refl w.heap.size (w.heap.size + 1) w7).setCell (p := ⟨w.heap.size, 1, none⟩) (Nat.le_refl _) (Nat.lt_succ_self _) _).setCell (p := ⟨w.heap.size, 2, none⟩) (Nat.le_refl _) (Nat.lt_succ_self _) _).setCell (p := ⟨w.heap.size, 3, none⟩) (Nat.le_refl _) (Nat.lt_succ_self _) _
     obtain ⟨X, hX⟩ : ∃ y, ((w7.setCell ⟨w.heap.size, 1, none⟩ (.slice A5 h.n1 d5)).setCell ⟨w.heap.size, 2, none⟩ (.slice A6 h.n2 d6)).setCell ⟨w.heap.size, 3, none⟩ (.slice A7 h.n3 d7) = y := ⟨_, rfl⟩
     rw [hX] at Y3 hO ⊢
     clear hX
     have YF : Blk X w.heap.size 32 #[.int .i64 d.net.sta, .slice A5 h.n1 d5, .slice A6 h.n2 d6, .slice A7 h.n3 d7, .string d.log] := by simpa using Y3
     have YZ := (((HY2.out.on HB5.out).on HB6.out).on HB7.out).keepOnly hO (.inr (Nat.le_refl _))
     have HYZ := Lib.hid YZ
     have HOX := Lib.hid hO
     have x0 := YF.cellAt 0 (by simp)
     have x1 := YF.cellAt 1 (by simp)
     have x2 := YF.cellAt 2 (by simp)
     have x3 := YF.cellAt 3 (by simp)
     have x4 := YF.cellAt 4 (by simp)
     have z0 := YZ.cellAt 0 (by simp)
     have z1 := YZ.cellAt 1 (by simp)
     have z2 := YZ.cellAt 2 (by simp)
     have z3 := YZ.cellAt 3 (by simp)
     have z4 := YZ.cellAt 4 (by simp)
     simp only [List.getElem_toArray, List.getElem_cons_zero, List.getElem_cons_succ] at x0 x1 x2 x3 x4 z0 z1 z2 z3 z4
     obtain ⟨g0, g1, g2, g3, g4⟩ := frozen5 YZ
     have yl := YZ.lt
     clear Y3 hO YF YZ
     go_wp2
     obtain ⟨q1, q2, q3⟩ := store5 HYZ.out (.int .i64 d.net.sta) (.slice A5 h.n1 d5) (.slice A6 h.n2 d6) (.slice A7 h.n3 d7) (.string d.log)
     obtain ⟨r0, r1, r2, r3, r4⟩ := cells5 q1
     obtain ⟨V, hV⟩ : ∃ y, (((((X.setCell ⟨w.heap.size + 1, 0, none⟩ (.int .i64 d.net.sta)).setCell ⟨w.heap.size + 1, 1, none⟩ (.slice A5 h.n1 d5)).setCell ⟨w.heap.size + 1, 2, none⟩ (.slice A6 h.n2 d6)).setCell ⟨w.heap.size + 1, 3, none⟩ (.slice A7 h.n3 d7)).setCell ⟨w.heap.size + 1, 4, none⟩ (.string d.log)) = y := ⟨_, rfl⟩
     rw [hV] at q3 r0 r1 r2 r3 r4 ⊢
     have hd := copyDone HB.out HZ.out HB5.out HB6.out HB7.out HOX.out q3 HS5.out HS6.out HS7.out
     exact bodyPost_ret (v := .agg #[.int .i64 d.net.sta, .slice A5 h.n1 d5, .slice A6 h.n2 d6, .slice A7 h.n3 d7, .string d.log]) (by simp [results, Tryz.results33, go_sem, r0, r1, r2, r3, r4]) rfl ⟨⟨A5, h.n1, d5, A6, h.n2, d6, A7, h.n3, d7⟩, rh, rfl, hd.1, hd.2⟩
    exact AllReadyH.nil
   refine AllReadyH.cons rfl (fun K hK => ?_) ?_
   ·skip
    go_simp
    refine hK.out _ _ ?_ (fun hNew => ?_)
    ·trivial
    clear hK K hHeld
    have hHeld := hNew
    clear hNew
    try simp only [Act.put, ly]
    refine wpAnyH_ready (rs := [3]) (by kernel_rfl) (by simp) ?_
    refine AllReadyH.cons rfl (fun K hK => ?_) AllReadyH.nil
    go_simp
    refine (cloneT_any h.A1 h.n1 h.c1 B d.net.tubes W.drew HP1.out (HR1.out.keep fun _ _ => rfl) hs.n1).mono ?_
    rintro e w5 ⟨A5, d5, rfl, s5, b5⟩
    have HS5 := Lib.hid s5
    have HB5 := Lib.hid (show Below W.heap.size W w5 from (Below.refl _ _).drew.trans b5)
    replace c1 := cell_on b5 c1
    replace c2 := cell_on b5 c2
    replace c3 := cell_on b5 c3
    clear s5 b5
    go_wp2_with fail
    refine hK.out _ _ ?_ (fun hNew => ?_)
    ·trivial
    clear hK K hHeld
    have hHeld := hNew
    clear hNew
    try simp only [Act.put, ly]
    refine tk 10 rfl ?_ ?_ ?_
    rotate_left
    ·intro w _; go_simp; try with_reducible rfl
    try simp only [Act.put, ly]
    refine tk 11 rfl ?_ ?_ ?_
    rotate_left
    ·intro w _; go_simp; try with_reducible rfl
    try simp only [Act.put, ly]
    refine wpAnyH_ready (rs := [6]) (by kernel_rfl) (by simp) ?_
    refine AllReadyH.cons rfl (fun K hK => ?_) AllReadyH.nil
    go_simp
    refine (cloneI_any h.A2 h.n2 h.c2 B d.times w5 HP2.out (HR2.out.on HBW.out HB5.out) hs.n2).mono ?_
    rintro e w6 ⟨A6, d6, rfl, s6, b6⟩
    have HS6 := Lib.hid s6
    have HB6 := Lib.hid b6
    replace c1 := cell_on b6 c1
    replace c2 := cell_on b6 c2
    replace c3 := cell_on b6 c3
    clear s6 b6
    go_wp2_with fail
    refine hK.out _ _ ?_ (fun hNew => ?_)
    ·trivial
    clear hK K hHeld
    have hHeld := hNew
    clear hNew
    try simp only [Act.put, ly]
    refine wpAnyH_ready (rs := [9]) (by kernel_rfl) (by simp) ?_
    refine AllReadyH.cons rfl (fun K hK => ?_) AllReadyH.nil
    go_simp
    refine (copyRuns_any h.A3 h.n3 h.c3 B d.runs w6 ((HR3.out.on HBW.out HB5.out).on (Nat.le_trans HBW.out HB5.out.size) HB6.out) (Nat.le_trans (Nat.le_trans HBW.out HB5.out.size) HB6.out.size) hs.n3 HWY.out).mono ?_
    rintro e w7 ⟨A7, d7, rh, rfl, s7, b7⟩
    have HS7 := Lib.hid s7
    have HB7 := Lib.hid b7
    replace c1 := cell_on b7 c1
    replace c2 := cell_on b7 c2
    replace c3 := cell_on b7 c3
    have Y7 := ((HY.out.on HB5.out).on HB6.out).on HB7.out
    have f1 := Y7.frozen 1
    have f2 := Y7.frozen 2
    have f3 := Y7.frozen 3
    clear s7 b7
    go_wp2_with fail
    refine hK.out _ _ ?_ (fun hNew => ?_)
    ·trivial
    clear hK K hHeld
    have hHeld := hNew
    clear hNew
    try simp only [Act.put, ly]
    refine wpAnyH_ready (rs := [12]) (by kernel_rfl) (by simp) ?_
    refine AllReadyH.cons rfl (fun K hK => ?_) AllReadyH.nil
    go_simp
    refine hK.out _ _ ?_ (fun hNew => ?_)
    ·trivial
    clear hK K hHeld
    have hHeld := hNew
    clear hNew
    try simp only [Act.put, ly]
    refine tk 13 rfl ?_ ?_ ?_
    rotate_left
    ·intro w _; go_simp; try with_reducible rfl
    try simp only [Act.put, ly]
    refine wpAnyH_ready (rs := [14]) (by kernel_rfl) (by simp) ?_
    refine AllReadyH.cons rfl (fun K hK => ?_) AllReadyH.nil
    have Y8 := Y7.set_ 1 (.slice A5 h.n1 d5)
    have c2b := Y8.cellAt 2 (by simp)
    have f2b := Y8.frozen 2
    go_simp
    refine hK.out _ _ ?_ (fun hNew => ?_)
    ·trivial
    clear hK K hHeld
    have hHeld := hNew
    clear hNew
    try simp only [Act.put, ly]
    refine tk 15 rfl ?_ ?_ ?_
    rotate_left
    ·intro w _; go_simp; try with_reducible rfl
    try simp only [Act.put, ly]
    refine wpAnyH_ready (rs := [16]) (by kernel_rfl) (by simp) ?_
    refine AllReadyH.cons rfl (fun K hK => ?_) AllReadyH.nil
    have Y9 := Y8.set_ 2 (.slice A6 h.n2 d6)
    have c3b := Y9.cellAt 3 (by simp)
    have f3b := Y9.frozen 3
    go_simp
    refine hK.out _ _ ?_ (fun hNew => ?_)
    ·trivial
    clear hK K hHeld
    have hHeld := hNew
    clear hNew
    try simp only [Act.put, ly]
    refine wpAnyH_done (by kernel_rfl) ?_ _
    clear hHeld c1 c2 c3 f1 f2 f3
    have Y3 := Y9.set_ 3 (.slice A7 h.n3 d7)
    clear Y7 Y8 Y9
    have hO : Only w.heap.size (w.heap.size + 1) w7 (((w7.setCell ⟨w.heap.size, 1, none⟩ (.slice A5 h.n1 d5)).setCell ⟨w.heap.size, 2, none⟩ (.slice A6 h.n2 d6)).setCell ⟨w.heap.size, 3, none⟩ (.slice A7 h.n3 d7)) := (((Only.refl w.heap.size (w.heap.size + 1) w7).setCell (p := ⟨w.heap.size, 1, none⟩) (Nat.le_refl _) (Nat.lt_succ_self _) _).setCell (p := ⟨w.heap.size, 2, none⟩) (Nat.le_refl _) (Nat.lt_succ_self _) _).setCell (p := ⟨w.heap.size, 3, none⟩) (Nat.le_refl _) (Nat.lt_succ_self _) _
    obtain ⟨X, hX⟩ : ∃ y, ((w7.setCell ⟨w.heap.size, 1, none⟩ (.slice A5 h.n1 d5)).setCell ⟨w.heap.size, 2, none⟩ (.slice A6 h.n2 d6)).setCell ⟨w.heap.size, 3, none⟩ (.slice A7 h.n3 d7) = y := ⟨_, rfl⟩
    rw [hX] at Y3 hO ⊢
    clear hX
    have YF : Blk X w.heap.size 32 #[.int .i64 d.net.sta, .slice A5 h.n1 d5, .slice A6 h.n2 d6, .slice A7 h.n3 d7, .string d.log] := by simpa using Y3
    have YZ := (((HY2.out.on HB5.out).on HB6.out).on HB7.out).keepOnly hO (.inr (Nat.le_refl _))
    have HYZ := Lib.hid YZ
    have HOX := Lib.hid hO
    have x0 := YF.cellAt 0 (by simp)
    have x1 := YF.cellAt 1 (by simp)
    have x2 := YF.cellAt 2 (by simp)
    have x3 := YF.cellAt 3 (by simp)
    have x4 := YF.cellAt 4 (by simp)
    have z0 := YZ.cellAt 0 (by simp)
    have z1 := YZ.cellAt 1 (by simp)
    have z2 := YZ.cellAt 2 (by simp)
    have z3 := YZ.cellAt 3 (by simp)
    have z4 := YZ.cellAt 4 (by simp)
    simp only [List.getElem_toArray, List.getElem_cons_zero, List.getElem_cons_succ] at x0 x1 x2 x3 x4 z0 z1 z2 z3 z4
    obtain ⟨g0, g1, g2, g3, g4⟩ := frozen5 YZ
    have yl := YZ.lt
    clear Y3 hO YF YZ
    go_wp2
    obtain ⟨q1, q2, q3⟩ := store5 HYZ.out (.int .i64 d.net.sta) (.slice A5 h.n1 d5) (.slice A6 h.n2 d6) (.slice A7 h.n3 d7) (.string d.log)
    obtain ⟨r0, r1, r2, r3, r4⟩ := cells5 q1
    obtain ⟨V, hV⟩ : ∃ y, (((((X.setCell ⟨w.heap.size + 1, 0, none⟩ (.int .i64 d.net.sta)).setCell ⟨w.heap.size + 1, 1, none⟩ (.slice A5 h.n1 d5)).setCell ⟨w.heap.size + 1, 2, none⟩ (.slice A6 h.n2 d6)).setCell ⟨w.heap.size + 1, 3, none⟩ (.slice A7 h.n3 d7)).setCell ⟨w.heap.size + 1, 4, none⟩ (.string d.log)) = y := ⟨_, rfl⟩
    rw [hV] at q3 r0 r1 r2 r3 r4 ⊢
    have hd := copyDone HB.out HZ.out HB5.out HB6.out HB7.out HOX.out q3 HS5.out HS6.out HS7.out
    exact bodyPost_ret (v := .agg #[.int .i64 d.net.sta, .slice A5 h.n1 d5, .slice A6 h.n2 d6, .slice A7 h.n3 d7, .string d.log]) (by simp [results, Tryz.results33, go_sem, r0, r1, r2, r3, r4]) rfl ⟨⟨A5, h.n1, d5, A6, h.n2, d6, A7, h.n3, d7⟩, rh, rfl, hd.1, hd.2⟩
   exact AllReadyH.nil
  refine AllReadyH.cons rfl (fun K hK => ?_) ?_
  ·skip
   go_simp
   refine hK.out _ _ ?_ (fun hNew => ?_)
   ·trivial
   clear hK K hHeld
   have hHeld := hNew
   clear hNew
   try simp only [Act.put, ly]
   refine wpAnyH_ready (rs := [3, 5]) (by kernel_rfl) (by simp) ?_
   refine AllReadyH.cons rfl (fun K hK => ?_) ?_
   ·skip
    go_simp
    refine (cloneT_any h.A1 h.n1 h.c1 B d.net.tubes W.drew HP1.out (HR1.out.keep fun _ _ => rfl) hs.n1).mono ?_
    rintro e w5 ⟨A5, d5, rfl, s5, b5⟩
    have HS5 := Lib.hid s5
    have HB5 := Lib.hid (show Below W.heap.size W w5 from (Below.refl _ _).drew.trans b5)
    replace c1 := cell_on b5 c1
    replace c2 := cell_on b5 c2
    replace c3 := cell_on b5 c3
    clear s5 b5
    go_wp2_with fail
    refine hK.out _ _ ?_ (fun hNew => ?_)
    ·trivial
    clear hK K hHeld
    have hHeld := hNew
    clear hNew
    try simp only [Act.put, ly]
    refine wpAnyH_ready (rs := [5]) (by kernel_rfl) (by simp) ?_
    refine AllReadyH.cons rfl (fun K hK => ?_) AllReadyH.nil
    go_simp
    refine hK.out _ _ ?_ (fun hNew => ?_)
    ·trivial
    clear hK K hHeld
    have hHeld := hNew
    clear hNew
    try simp only [Act.put, ly]
    refine tk 10 rfl ?_ ?_ ?_
    rotate_left
    ·intro w _; go_simp; try with_reducible rfl
    try simp only [Act.put, ly]
    refine tk 11 rfl ?_ ?_ ?_
    rotate_left
    ·intro w _; go_simp; try with_reducible rfl
    try simp only [Act.put, ly]
    refine wpAnyH_ready (rs := [6]) (by kernel_rfl) (by simp) ?_
    refine AllReadyH.cons rfl (fun K hK => ?_) AllReadyH.nil
    go_simp
    refine (cloneI_any h.A2 h.n2 h.c2 B d.times w5 HP2.out (HR2.out.on HBW.out HB5.out) hs.n2).mono ?_
    rintro e w6 ⟨A6, d6, rfl, s6, b6⟩
    have HS6 := Lib.hid s6
    have HB6 := Lib.hid b6
    replace c1 := cell_on b6 c1
    replace c2 := cell_on b6 c2
    replace c3 := cell_on b6 c3
    clear s6 b6
    go_wp2_with fail
    refine hK.out _ _ ?_ (fun hNew => ?_)
    ·trivial
    clear hK K hHeld
    have hHeld := hNew
    clear hNew
    try simp only [Act.put, ly]
    refine wpAnyH_ready (rs := [9]) (by kernel_rfl) (by simp) ?_
    refine AllReadyH.cons rfl (fun K hK => ?_) AllReadyH.nil
    go_simp
    refine (copyRuns_any h.A3 h.n3 h.c3 B d.runs w6 ((HR3.out.on HBW.out HB5.out).on (Nat.le_trans HBW.out HB5.out.size) HB6.out) (Nat.le_trans (Nat.le_trans HBW.out HB5.out.size) HB6.out.size) hs.n3 HWY.out).mono ?_
    rintro e w7 ⟨A7, d7, rh, rfl, s7, b7⟩
    have HS7 := Lib.hid s7
    have HB7 := Lib.hid b7
    replace c1 := cell_on b7 c1
    replace c2 := cell_on b7 c2
    replace c3 := cell_on b7 c3
    have Y7 := ((HY.out.on HB5.out).on HB6.out).on HB7.out
    have f1 := Y7.frozen 1
    have f2 := Y7.frozen 2
    have f3 := Y7.frozen 3
    clear s7 b7
    go_wp2_with fail
    refine hK.out _ _ ?_ (fun hNew => ?_)
    ·trivial
    clear hK K hHeld
    have hHeld := hNew
    clear hNew
    try simp only [Act.put, ly]
    refine wpAnyH_ready (rs := [12]) (by kernel_rfl) (by simp) ?_
    refine AllReadyH.cons rfl (fun K hK => ?_) AllReadyH.nil
    go_simp
    refine hK.out _ _ ?_ (fun hNew => ?_)
    ·trivial
    clear hK K hHeld
    have hHeld := hNew
    clear hNew
    try simp only [Act.put, ly]
    refine tk 13 rfl ?_ ?_ ?_
    rotate_left
    ·intro w _; go_simp; try with_reducible rfl
    try simp only [Act.put, ly]
    refine wpAnyH_ready (rs := [14]) (by kernel_rfl) (by simp) ?_
    refine AllReadyH.cons rfl (fun K hK => ?_) AllReadyH.nil
    have Y8 := Y7.set_ 1 (.slice A5 h.n1 d5)
    have c2b := Y8.cellAt 2 (by simp)
    have f2b := Y8.frozen 2
    go_simp
    refine hK.out _ _ ?_ (fun hNew => ?_)
    ·trivial
    clear hK K hHeld
    have hHeld := hNew
    clear hNew
    try simp only [Act.put, ly]
    refine tk 15 rfl ?_ ?_ ?_
    rotate_left
    ·intro w _; go_simp; try with_reducible rfl
    try simp only [Act.put, ly]
    refine wpAnyH_ready (rs := [16]) (by kernel_rfl) (by simp) ?_
    refine AllReadyH.cons rfl (fun K hK => ?_) AllReadyH.nil
    have Y9 := Y8.set_ 2 (.slice A6 h.n2 d6)
    have c3b := Y9.cellAt 3 (by simp)
    have f3b := Y9.frozen 3
    go_simp
    refine hK.out _ _ ?_ (fun hNew => ?_)
    ·trivial
    clear hK K hHeld
    have hHeld := hNew
    clear hNew
    try simp only [Act.put, ly]
    refine wpAnyH_done (by kernel_rfl) ?_ _
    clear hHeld c1 c2 c3 f1 f2 f3
    have Y3 := Y9.set_ 3 (.slice A7 h.n3 d7)
    clear Y7 Y8 Y9
    have hO : Only w.heap.size (w.heap.size + 1) w7 (((w7.setCell ⟨w.heap.size, 1, none⟩ (.slice A5 h.n1 d5)).setCell ⟨w.heap.size, 2, none⟩ (.slice A6 h.n2 d6)).setCell ⟨w.heap.size, 3, none⟩ (.slice A7 h.n3 d7)) := (((Only.refl w.heap.size (w.heap.size + 1) w7).setCell (p := ⟨w.heap.size, 1, none⟩) (Nat.le_refl _) (Nat.lt_succ_self _) _).setCell (p := ⟨w.heap.size, 2, none⟩) (Nat.le_refl _) (Nat.lt_succ_self _) _).setCell (p := ⟨w.heap.size, 3, none⟩) (Nat.le_refl _) (Nat.lt_succ_self _) _
    obtain ⟨X, hX⟩ : ∃ y, ((w7.setCell ⟨w.heap.size, 1, none⟩ (.slice A5 h.n1 d5)).setCell ⟨w.heap.size, 2, none⟩ (.slice A6 h.n2 d6)).setCell ⟨w.heap.size, 3, none⟩ (.slice A7 h.n3 d7) = y := ⟨_, rfl⟩
    rw [hX] at Y3 hO ⊢
    clear hX
    have YF : Blk X w.heap.size 32 #[.int .i64 d.net.sta, .slice A5 h.n1 d5, .slice A6 h.n2 d6, .slice A7 h.n3 d7, .string d.log] := by simpa using Y3
    have YZ := (((HY2.out.on HB5.out).on HB6.out).on HB7.out).keepOnly hO (.inr (Nat.le_refl _))
    have HYZ := Lib.hid YZ
    have HOX := Lib.hid hO
    have x0 := YF.cellAt 0 (by simp)
    have x1 := YF.cellAt 1 (by simp)
    have x2 := YF.cellAt 2 (by simp)
    have x3 := YF.cellAt 3 (by simp)
    have x4 := YF.cellAt 4 (by simp)
    have z0 := YZ.cellAt 0 (by simp)
    have z1 := YZ.cellAt 1 (by simp)
    have z2 := YZ.cellAt 2 (by simp)
    have z3 := YZ.cellAt 3 (by simp)
    have z4 := YZ.cellAt 4 (by simp)
    simp only [List.getElem_toArray, List.getElem_cons_zero, List.getElem_cons_succ] at x0 x1 x2 x3 x4 z0 z1 z2 z3 z4
    obtain ⟨g0, g1, g2, g3, g4⟩ := frozen5 YZ
    have yl := YZ.lt
    clear Y3 hO YF YZ
    go_wp2
    obtain ⟨q1, q2, q3⟩ := store5 HYZ.out (.int .i64 d.net.sta) (.slice A5 h.n1 d5) (.slice A6 h.n2 d6) (.slice A7 h.n3 d7) (.string d.log)
    obtain ⟨r0, r1, r2, r3, r4⟩ := cells5 q1
    obtain ⟨V, hV⟩ : ∃ y, (((((X.setCell ⟨w.heap.size + 1, 0, none⟩ (.int .i64 d.net.sta)).setCell ⟨w.heap.size + 1, 1, none⟩ (.slice A5 h.n1 d5)).setCell ⟨w.heap.size + 1, 2, none⟩ (.slice A6 h.n2 d6)).setCell ⟨w.heap.size + 1, 3, none⟩ (.slice A7 h.n3 d7)).setCell ⟨w.heap.size + 1, 4, none⟩ (.string d.log)) = y := ⟨_, rfl⟩
    rw [hV] at q3 r0 r1 r2 r3 r4 ⊢
    have hd := copyDone HB.out HZ.out HB5.out HB6.out HB7.out HOX.out q3 HS5.out HS6.out HS7.out
    exact bodyPost_ret (v := .agg #[.int .i64 d.net.sta, .slice A5 h.n1 d5, .slice A6 h.n2 d6, .slice A7 h.n3 d7, .string d.log]) (by simp [results, Tryz.results33, go_sem, r0, r1, r2, r3, r4]) rfl ⟨⟨A5, h.n1, d5, A6, h.n2, d6, A7, h.n3, d7⟩, rh, rfl, hd.1, hd.2⟩
   refine AllReadyH.cons rfl (fun K hK => ?_) ?_
   ·skip
    go_simp
    refine hK.out _ _ ?_ (fun hNew => ?_)
    ·trivial
    clear hK K hHeld
    have hHeld := hNew
    clear hNew
    try simp only [Act.put, ly]
    refine wpAnyH_ready (rs := [3]) (by kernel_rfl) (by simp) ?_
    refine AllReadyH.cons rfl (fun K hK => ?_) AllReadyH.nil
    go_simp
    refine (cloneT_any h.A1 h.n1 h.c1 B d.net.tubes W.drew HP1.out (HR1.out.keep fun _ _ => rfl) hs.n1).mono ?_
    rintro e w5 ⟨A5, d5, rfl, s5, b5⟩
    have HS5 := Lib.hid s5
    have HB5 := Lib.hid (show Below W.heap.size W w5 from (Below.refl _ _).drew.trans b5)
    replace c1 := cell_on b5 c1
    replace c2 := cell_on b5 c2
    replace c3 := cell_on b5 c3
    clear s5 b5
    go_wp2_with fail
    refine hK.out _ _ ?_ (fun hNew => ?_)
    ·trivial
    clear hK K hHeld
    have hHeld := hNew
    clear hNew
    try simp only [Act.put, ly]
    refine tk 10 rfl ?_ ?_ ?_
    rotate_left
    ·intro w _; go_simp; try with_reducible rfl
    try simp only [Act.put, ly]
    refine tk 11 rfl ?_ ?_ ?_
    rotate_left
    ·intro w _; go_simp; try with_reducible rfl
    try simp only [Act.put, ly]
    refine wpAnyH_ready (rs := [6]) (by kernel_rfl) (by simp) ?_
    refine AllReadyH.cons rfl (fun K hK => ?_) AllReadyH.nil
    go_simp
    refine (cloneI_any h.A2 h.n2 h.c2 B d.times w5 HP2.out (HR2.out.on HBW.out HB5.out) hs.n2).mono ?_
    rintro e w6 ⟨A6, d6, rfl, s6, b6⟩
    have HS6 := Lib.hid s6
    have HB6 := Lib.hid b6
    replace c1 := cell_on b6 c1
    replace c2 := cell_on b6 c2
    replace c3 := cell_on b6 c3
    clear s6 b6
    go_wp2_with fail
    refine hK.out _ _ ?_ (fun hNew => ?_)
    ·trivial
    clear hK K hHeld
    have hHeld := hNew
    clear hNew
    try simp only [Act.put, ly]
    refine wpAnyH_ready (rs := [9]) (by kernel_rfl) (by simp) ?_
    refine AllReadyH.cons rfl (fun K hK => ?_) AllReadyH.nil
    go_simp
    refine (copyRuns_any h.A3 h.n3 h.c3 B d.runs w6 ((HR3.out.on HBW.out HB5.out).on (Nat.le_trans HBW.out HB5.out.size) HB6.out) (Nat.le_trans (Nat.le_trans HBW.out HB5.out.size) HB6.out.size) hs.n3 HWY.out).mono ?_
    rintro e w7 ⟨A7, d7, rh, rfl, s7, b7⟩
    have HS7 := Lib.hid s7
    have HB7 := Lib.hid b7
    replace c1 := cell_on b7 c1
    replace c2 := cell_on b7 c2
    replace c3 := cell_on b7 c3
    have Y7 := ((HY.out.on HB5.out).on HB6.out).on HB7.out
    have f1 := Y7.frozen 1
    have f2 := Y7.frozen 2
    have f3 := Y7.frozen 3
    clear s7 b7
    go_wp2_with fail
    refine hK.out _ _ ?_ (fun hNew => ?_)
    ·trivial
    clear hK K hHeld
    have hHeld := hNew
    clear hNew
    try simp only [Act.put, ly]
    refine wpAnyH_ready (rs := [12]) (by kernel_rfl) (by simp) ?_
    refine AllReadyH.cons rfl (fun K hK => ?_) AllReadyH.nil
    go_simp
    refine hK.out _ _ ?_ (fun hNew => ?_)
    ·trivial
    clear hK K hHeld
    have hHeld := hNew
    clear hNew
    try simp only [Act.put, ly]
    refine tk 13 rfl ?_ ?_ ?_
    rotate_left
    ·intro w _; go_simp; try with_reducible rfl
    try simp only [Act.put, ly]
    refine wpAnyH_ready (rs := [14]) (by kernel_rfl) (by simp) ?_
    refine AllReadyH.cons rfl (fun K hK => ?_) AllReadyH.nil
    have Y8 := Y7.set_ 1 (.slice A5 h.n1 d5)
    have c2b := Y8.cellAt 2 (by simp)
    have f2b := Y8.frozen 2
    go_simp
    refine hK.out _ _ ?_ (fun hNew => ?_)
    ·trivial
    clear hK K hHeld
    have hHeld := hNew
    clear hNew
    try simp only [Act.put, ly]
    refine tk 15 rfl ?_ ?_ ?_
    rotate_left
    ·intro w _; go_simp; try with_reducible rfl
    try simp only [Act.put, ly]
    refine wpAnyH_ready (rs := [16]) (by kernel_rfl) (by simp) ?_
    refine AllReadyH.cons rfl (fun K hK => ?_) AllReadyH.nil
    have Y9 := Y8.set_ 2 (.slice A6 h.n2 d6)
    have c3b := Y9.cellAt 3 (by simp)
    have f3b := Y9.frozen 3
    go_simp
    refine hK.out _ _ ?_ (fun hNew => ?_)
    ·trivial
    clear hK K hHeld
    have hHeld := hNew
    clear hNew
    try simp only [Act.put, ly]
    refine wpAnyH_done (by kernel_rfl) ?_ _
    clear hHeld c1 c2 c3 f1 f2 f3
    have Y3 := Y9.set_ 3 (.slice A7 h.n3 d7)
    clear Y7 Y8 Y9
    have hO : Only w.heap.size (w.heap.size + 1) w7 (((w7.setCell ⟨w.heap.size, 1, none⟩ (.slice A5 h.n1 d5)).setCell ⟨w.heap.size, 2, none⟩ (.slice A6 h.n2 d6)).setCell ⟨w.heap.size, 3, none⟩ (.slice A7 h.n3 d7)) := (((Only.refl w.heap.size (w.heap.size + 1) w7).setCell (p := ⟨w.heap.size, 1, none⟩) (Nat.le_refl _) (Nat.lt_succ_self _) _).setCell (p := ⟨w.heap.size, 2, none⟩) (Nat.le_refl _) (Nat.lt_succ_self _) _).setCell (p := ⟨w.heap.size, 3, none⟩) (Nat.le_refl _) (Nat.lt_succ_self _) _
    obtain ⟨X, hX⟩ : ∃ y, ((w7.setCell ⟨w.heap.size, 1, none⟩ (.slice A5 h.n1 d5)).setCell ⟨w.heap.size, 2, none⟩ (.slice A6 h.n2 d6)).setCell ⟨w.heap.size, 3, none⟩ (.slice A7 h.n3 d7) = y := ⟨_, rfl⟩
    rw [hX] at Y3 hO ⊢
    clear hX
    have YF : Blk X w.heap.size 32 #[.int .i64 d.net.sta, .slice A5 h.n1 d5, .slice A6 h.n2 d6, .slice A7 h.n3 d7, .string d.log] := by simpa using Y3
    have YZ := (((HY2.out.on HB5.out).on HB6.out).on HB7.out).keepOnly hO (.inr (Nat.le_refl _))
    have HYZ := Lib.hid YZ
    have HOX := Lib.hid hO
    have x0 := YF.cellAt 0 (by simp)
    have x1 := YF.cellAt 1 (by simp)
    have x2 := YF.cellAt 2 (by simp)
    have x3 := YF.cellAt 3 (by simp)
    have x4 := YF.cellAt 4 (by simp)
    have z0 := YZ.cellAt 0 (by simp)
    have z1 := YZ.cellAt 1 (by simp)
    have z2 := YZ.cellAt 2 (by simp)
    have z3 := YZ.cellAt 3 (by simp)
    have z4 := YZ.cellAt 4 (by simp)
    simp only [List.getElem_toArray, List.getElem_cons_zero, List.getElem_cons_succ] at x0 x1 x2 x3 x4 z0 z1 z2 z3 z4
    obtain ⟨g0, g1, g2, g3, g4⟩ := frozen5 YZ
    have yl := YZ.lt
    clear Y3 hO YF YZ
    go_wp2
    obtain ⟨q1, q2, q3⟩ := store5 HYZ.out (.int .i64 d.net.sta) (.slice A5 h.n1 d5) (.slice A6 h.n2 d6) (.slice A7 h.n3 d7) (.string d.log)
    obtain ⟨r0, r1, r2, r3, r4⟩ := cells5 q1
    obtain ⟨V, hV⟩ : ∃ y, (((((X.setCell ⟨w.heap.size + 1, 0, none⟩ (.int .i64 d.net.sta)).setCell ⟨w.heap.size + 1, 1, none⟩ (.slice A5 h.n1 d5)).setCell ⟨w.heap.size + 1, 2, none⟩ (.slice A6 h.n2 d6)).setCell ⟨w.heap.size + 1, 3, none⟩ (.slice A7 h.n3 d7)).setCell ⟨w.heap.size + 1, 4, none⟩ (.string d.log)) = y := ⟨_, rfl⟩
    rw [hV] at q3 r0 r1 r2 r3 r4 ⊢
    have hd := copyDone HB.out HZ.out HB5.out HB6.out HB7.out HOX.out q3 HS5.out HS6.out HS7.out
    exact bodyPost_ret (v := .agg #[.int .i64 d.net.sta, .slice A5 h.n1 d5, .slice A6 h.n2 d6, .slice A7 h.n3 d7, .string d.log]) (by simp [results, Tryz.results33, go_sem, r0, r1, r2, r3, r4]) rfl ⟨⟨A5, h.n1, d5, A6, h.n2, d6, A7, h.n3, d7⟩, rh, rfl, hd.1, hd.2⟩
   exact AllReadyH.nil
  exact AllReadyH.nil
 refine AllReadyH.cons rfl (fun K hK => ?_) ?_
 ·skip
  go_simp
  refine hK.out _ _ ?_ (fun hNew => ?_)
  ·trivial
  clear hK K hHeld
  have hHeld := hNew
  clear hNew
  try simp only [Act.put, ly]
  refine wpAnyH_ready (rs := [2, 8]) (by kernel_rfl) (by simp) ?_
  refine AllReadyH.cons rfl (fun K hK => ?_) ?_
  ·skip
   go_simp
   refine hK.out _ _ ?_ (fun hNew => ?_)
   ·trivial
   clear hK K hHeld
   have hHeld := hNew
   clear hNew
   try simp only [Act.put, ly]
   refine wpAnyH_ready (rs := [3, 8]) (by kernel_rfl) (by simp) ?_
   refine AllReadyH.cons rfl (fun K hK => ?_) ?_
   ·skip
    go_simp
    refine (cloneT_any h.A1 h.n1 h.c1 B d.net.tubes W.drew HP1.out (HR1.out.keep fun _ _ => rfl) hs.n1).mono ?_
    rintro e w5 ⟨A5, d5, rfl, s5, b5⟩
    have HS5 := Lib.hid s5
    have HB5 := Lib.hid (show Below W.heap.size W w5 from (Below.refl _ _).drew.trans b5)
    replace c1 := cell_on b5 c1
    replace c2 := cell_on b5 c2
    replace c3 := cell_on b5 c3
    clear s5 b5
    go_wp2_with fail
    refine hK.out _ _ ?_ (fun hNew => ?_)
    ·trivial
    clear hK K hHeld
    have hHeld := hNew
    clear hNew
    try simp only [Act.put, ly]
    refine wpAnyH_ready (rs := [6, 8]) (by kernel_rfl) (by simp) ?_
    refine AllReadyH.cons rfl (fun K hK => ?_) ?_
    ·skip
     go_simp
     refine (cloneI_any h.A2 h.n2 h.c2 B d.times w5 HP2.out (HR2.out.on HBW.out HB5.out) hs.n2).mono ?_
     rintro e w6 ⟨A6, d6, rfl, s6, b6⟩
     have HS6 := Lib.hid s6
     have HB6 := Lib.hid b6
     replace c1 := cell_on b6 c1
     replace c2 := cell_on b6 c2
     replace c3 := cell_on b6 c3
     clear s6 b6
     go_wp2_with fail
     refine hK.out _ _ ?_ (fun hNew => ?_)
     ·trivial
     clear hK K hHeld
     have hHeld := hNew
     clear hNew
     try simp only [Act.put, ly]
     refine wpAnyH_ready (rs := [8]) (by kernel_rfl) (by simp) ?_
     refine AllReadyH.cons rfl (fun K hK => ?_) AllReadyH.nil
     go_simp
     refine hK.out _ _ ?_ (fun hNew => ?_)
     ·trivial
     clear hK K hHeld
     have hHeld := hNew
     clear hNew
     try simp only [Act.put, ly]
     refine tk 10 rfl ?_ ?_ ?_
     rotate_left
     ·intro w _; go_simp; try with_reducible rfl
     try simp only [Act.put, ly]
     refine tk 11 rfl ?_ ?_ ?_
     rotate_left
     ·intro w _; go_simp; try with_reducible rfl
     try simp only [Act.put, ly]
     refine wpAnyH_ready (rs := [9]) (by kernel_rfl) (by simp) ?_
     refine AllReadyH.cons rfl (fun K hK => ?_) AllReadyH.nil
     go_simp
     refine (copyRuns_any h.A3 h.n3 h.c3 B d.runs w6 ((HR3.out.on HBW.out HB5.out).on (Nat.le_trans HBW.out HB5.out.size) HB6.out) (Nat.le_trans (Nat.le_trans HBW.out HB5.out.size) HB6.out.size) hs.n3 HWY.out).mono ?_
     rintro e w7 ⟨A7, d7, rh, rfl, s7, b7⟩
     have HS7 := Lib.hid s7
     have HB7 := Lib.hid b7
     replace c1 := cell_on b7 c1
     replace c2 := cell_on b7 c2
     replace c3 := cell_on b7 c3
     have Y7 := ((HY.out.on HB5.out).on HB6.out).on HB7.out
     have f1 := Y7.frozen 1
     have f2 := Y7.frozen 2
     have f3 := Y7.frozen 3
     clear s7 b7
     go_wp2_with fail
     refine hK.out _ _ ?_ (fun hNew => ?_)
     ·trivial
     clear hK K hHeld
     have hHeld := hNew
     clear hNew
     try simp only [Act.put, ly]
     refine wpAnyH_ready (rs := [12]) (by kernel_rfl) (by simp) ?_
     refine AllReadyH.cons rfl (fun K hK => ?_) AllReadyH.nil
     go_simp
     refine hK.out _ _ ?_ (fun hNew => ?_)
     ·trivial
     clear hK K hHeld
     have hHeld := hNew
     clear hNew
     try simp only [Act.put, ly]
     refine tk 13 rfl ?_ ?_ ?_
     rotate_left
     ·intro w _; go_simp; try with_reducible rfl
     try simp only [Act.put, ly]
     refine wpAnyH_ready (rs := [14]) (by kernel_rfl) (by simp) ?_
     refine AllReadyH.cons rfl (fun K hK => ?_) AllReadyH.nil
     have Y8 := Y7.set_ 1 (.slice A5 h.n1 d5)
     have c2b := Y8.cellAt 2 (by simp)
     have f2b := Y8.frozen 2
     go_simp
     refine hK.out _ _ ?_ (fun hNew => ?_)
     ·trivial
     clear hK K hHeld
     have hHeld := hNew
     clear hNew
     try simp only [Act.put, ly]
     refine tk 15 rfl ?_ ?_ ?_
     rotate_left
     ·intro w _; go_simp; try with_reducible rfl
     try simp only [Act.put, ly]
     refine wpAnyH_ready (rs := [16]) (by kernel_rfl) (by simp) ?_
     refine AllReadyH.cons rfl (fun K hK => ?_) AllReadyH.nil
     have Y9 := Y8.set_ 2 (.slice A6 h.n2 d6)
     have c3b := Y9.cellAt 3 (by simp)
     have f3b := Y9.frozen 3
     go_simp
     refine hK.out _ _ ?_ (fun hNew => ?_)
     ·trivial
     clear hK K hHeld
     have hHeld := hNew
     clear hNew
     try simp only [Act.put, ly]
     refine wpAnyH_done (by kernel_rfl) ?_ _
     clear hHeld c1 c2 c3 f1 f2 f3
     have Y3 := Y9.set_ 3 (.slice A7 h.n3 d7)
     clear Y7 Y8 Y9
     have hO : Only w.heap.size (w.heap.size + 1) w7 (((w7.setCell ⟨w.heap.size, 1, none⟩ (.slice A5 h.n1 d5)).setCell ⟨w.heap.size, 2, none⟩ (.slice A6 h.n2 d6)).setCell ⟨w.heap.size, 3, none⟩ (.slice A7 h.n3 d7)) := (((Only.refl w.heap.size (w.heap.size + 1) w7).setCell (p := ⟨w.heap.size, 1, none⟩) (Nat.le_refl _) (Nat.lt_succ_self _) _).setCell (p := ⟨w.heap.size, 2, none⟩) (Nat.le_refl _) (Nat.lt_succ_self _) _).setCell (p := ⟨w.heap.size, 3, none⟩) (Nat.le_refl _) (Nat.lt_succ_self _) _
     obtain ⟨X, hX⟩ : ∃ y, ((w7.setCell ⟨w.heap.size, 1, none⟩ (.slice A5 h.n1 d5)).setCell ⟨w.heap.size, 2, none⟩ (.slice A6 h.n2 d6)).setCell ⟨w.heap.size, 3, none⟩ (.slice A7 h.n3 d7) = y := ⟨_, rfl⟩
     rw [hX] at Y3 hO ⊢
     clear hX
     have YF : Blk X w.heap.size 32 #[.int .i64 d.net.sta, .slice A5 h.n1 d5, .slice A6 h.n2 d6, .slice A7 h.n3 d7, .string d.log] := by simpa using Y3
     have YZ := (((HY2.out.on HB5.out).on HB6.out).on HB7.out).keepOnly hO (.inr (Nat.le_refl _))
     have HYZ := Lib.hid YZ
     have HOX := Lib.hid hO
     have x0 := YF.cellAt 0 (by simp)
     have x1 := YF.cellAt 1 (by simp)
     have x2 := YF.cellAt 2 (by simp)
     have x3 := YF.cellAt 3 (by simp)
     have x4 := YF.cellAt 4 (by simp)
     have z0 := YZ.cellAt 0 (by simp)
     have z1 := YZ.cellAt 1 (by simp)
     have z2 := YZ.cellAt 2 (by simp)
     have z3 := YZ.cellAt 3 (by simp)
     have z4 := YZ.cellAt 4 (by simp)
     simp only [List.getElem_toArray, List.getElem_cons_zero, List.getElem_cons_succ] at x0 x1 x2 x3 x4 z0 z1 z2 z3 z4
     obtain ⟨g0, g1, g2, g3, g4⟩ := frozen5 YZ
     have yl := YZ.lt
     clear Y3 hO YF YZ
     go_wp2
     obtain ⟨q1, q2, q3⟩ := store5 HYZ.out (.int .i64 d.net.sta) (.slice A5 h.n1 d5) (.slice A6 h.n2 d6) (.slice A7 h.n3 d7) (.string d.log)
     obtain ⟨r0, r1, r2, r3, r4⟩ := cells5 q1
     obtain ⟨V, hV⟩ : ∃ y, (((((X.setCell ⟨w.heap.size + 1, 0, none⟩ (.int .i64 d.net.sta)).setCell ⟨w.heap.size + 1, 1, none⟩ (.slice A5 h.n1 d5)).setCell ⟨w.heap.size + 1, 2, none⟩ (.slice A6 h.n2 d6)).setCell ⟨w.heap.size + 1, 3, none⟩ (.slice A7 h.n3 d7)).setCell ⟨w.heap.size + 1, 4, none⟩ (.string d.log)) = y := ⟨_, rfl⟩
     rw [hV] at q3 r0 r1 r2 r3 r4 ⊢
     have hd := copyDone HB.out HZ.out HB5.out HB6.out HB7.out HOX.out q3 HS5.out HS6.out HS7.out
     exact bodyPost_ret (v := .agg #[.int .i64 d.net.sta, .slice A5 h.n1 d5, .slice A6 h.n2 d6, .slice A7 h.n3 d7, .string d.log]) (by simp [results, Tryz.results33, go_sem, r0, r1, r2, r3, r4]) rfl ⟨⟨A5, h.n1, d5, A6, h.n2, d6, A7, h.n3, d7⟩, rh, rfl, hd.1, hd.2⟩
    refine AllReadyH.cons rfl (fun K hK => ?_) ?_
    ·skip
     go_simp
     refine hK.out _ _ ?_ (fun hNew => ?_)
     ·trivial
     clear hK K hHeld
     have hHeld := hNew
     clear hNew
     try simp only [Act.put, ly]
     refine tk 10 rfl ?_ ?_ ?_
     rotate_left
     ·intro w _; go_simp; try with_reducible rfl
     try simp only [Act.put, ly]
     refine tk 11 rfl ?_ ?_ ?_
     rotate_left
     ·intro w _; go_simp; try with_reducible rfl
     try simp only [Act.put, ly]
     refine wpAnyH_ready (rs := [6]) (by kernel_rfl) (by simp) ?_
     refine AllReadyH.cons rfl (fun K hK => ?_) AllReadyH.nil
     go_simp
     refine (cloneI_any h.A2 h.n2 h.c2 B d.times w5 HP2.out (HR2.out.on HBW.out HB5.out) hs.n2).mono ?_
     rintro e w6 ⟨A6, d6, rfl, s6, b6⟩
     have HS6 := Lib.hid s6
     have HB6 := Lib.hid b6
     replace c1 := cell_on b6 c1
     replace c2 := cell_on b6 c2
     replace c3 := cell_on b6 c3
     clear s6 b6
     go_wp2_with fail
     refine hK.out _ _ ?_ (fun hNew => ?_)
     ·trivial
     clear hK K hHeld
     have hHeld := hNew
     clear hNew
     try simp only [Act.put, ly]
     refine wpAnyH_ready (rs := [9]) (by kernel_rfl) (by simp) ?_
     refine AllReadyH.cons rfl (fun K hK => ?_) AllReadyH.nil
     go_simp
     refine (copyRuns_any h.A3 h.n3 h.c3 B d.runs w6 ((HR3.out.on HBW.out HB5.out).on (Nat.le_trans HBW.out HB5.out.size) HB6.out) (Nat.le_trans (Nat.le_trans HBW.out HB5.out.size) HB6.out.size) hs.n3 HWY.out).mono ?_
     rintro e w7 ⟨A7, d7, rh, rfl, s7, b7⟩
     have HS7 := Lib.hid s7
     have HB7 := Lib.hid b7
     replace c1 := cell_on b7 c1
     replace c2 := cell_on b7 c2
     replace c3 := cell_on b7 c3
     have Y7 := ((HY.out.on HB5.out).on HB6.out).on HB7.out
     have f1 := Y7.frozen 1
     have f2 := Y7.frozen 2
     have f3 := Y7.frozen 3
     clear s7 b7
     go_wp2_with fail
     refine hK.out _ _ ?_ (fun hNew => ?_)
     ·trivial
     clear hK K hHeld
     have hHeld := hNew
     clear hNew
     try simp only [Act.put, ly]
     refine wpAnyH_ready (rs := [12]) (by kernel_rfl) (by simp) ?_
     refine AllReadyH.cons rfl (fun K hK => ?_) AllReadyH.nil
     go_simp
     refine hK.out _ _ ?_ (fun hNew => ?_)
     ·trivial
     clear hK K hHeld
     have hHeld := hNew
     clear hNew
     try simp only [Act.put, ly]
     refine tk 13 rfl ?_ ?_ ?_
     rotate_left
     ·intro w _; go_simp; try with_reducible rfl
     try simp only [Act.put, ly]
     refine wpAnyH_ready (rs := [14]) (by kernel_rfl) (by simp) ?_
     refine AllReadyH.cons rfl (fun K hK => ?_) AllReadyH.nil
     have Y8 := Y7.set_ 1 (.slice A5 h.n1 d5)
     have c2b := Y8.cellAt 2 (by simp)
     have f2b := Y8.frozen 2
     go_simp
     refine hK.out _ _ ?_ (fun hNew => ?_)
     ·trivial
     clear hK K hHeld
     have hHeld := hNew
     clear hNew
     try simp only [Act.put, ly]
     refine tk 15 rfl ?_ ?_ ?_
     rotate_left
     ·intro w _; go_simp; try with_reducible rfl
     try simp only [Act.put, ly]
     refine wpAnyH_ready (rs := [16]) (by kernel_rfl) (by simp) ?_
     refine AllReadyH.cons rfl (fun K hK => ?_) AllReadyH.nil
     have Y9 := Y8.set_ 2 (.slice A6 h.n2 d6)
     have c3b := Y9.cellAt 3 (by simp)
     have f3b := Y9.frozen 3
     go_simp
     refine hK.out _ _ ?_ (fun hNew => ?_)
     ·trivial
     clear hK K hHeld
     have hHeld := hNew
     clear hNew
     try simp only [Act.put, ly]
     refine wpAnyH_done (by kernel_rfl) ?_ _
     clear hHeld c1 c2 c3 f1 f2 f3
     have Y3 := Y9.set_ 3 (.slice A7 h.n3 d7)
     clear Y7 Y8 Y9
     have hO : Only w.heap.size (w.heap.size + 1) w7 (((w7.setCell ⟨w.heap.size, 1, none⟩ (.slice A5 h.n1 d5)).setCell ⟨w.heap.size, 2, none⟩ (.slice A6 h.n2 d6)).setCell ⟨w.heap.size, 3, none⟩ (.slice A7 h.n3 d7)) := (((Only.refl w.heap.size (w.heap.size + 1) w7).setCell (p := ⟨w.heap.size, 1, none⟩) (Nat.le_refl _) (Nat.lt_succ_self _) _).setCell (p := ⟨w.heap.size, 2, none⟩) (Nat.le_refl _) (Nat.lt_succ_self _) _).setCell (p := ⟨w.heap.size, 3, none⟩) (Nat.le_refl _) (Nat.lt_succ_self _) _
     obtain ⟨X, hX⟩ : ∃ y, ((w7.setCell ⟨w.heap.size, 1, none⟩ (.slice A5 h.n1 d5)).setCell ⟨w.heap.size, 2, none⟩ (.slice A6 h.n2 d6)).setCell ⟨w.heap.size, 3, none⟩ (.slice A7 h.n3 d7) = y := ⟨_, rfl⟩
     rw [hX] at Y3 hO ⊢
     clear hX
     have YF : Blk X w.heap.size 32 #[.int .i64 d.net.sta, .slice A5 h.n1 d5, .slice A6 h.n2 d6, .slice A7 h.n3 d7, .string d.log] := by simpa using Y3
     have YZ := (((HY2.out.on HB5.out).on HB6.out).on HB7.out).keepOnly hO (.inr (Nat.le_refl _))
     have HYZ := Lib.hid YZ
     have HOX := Lib.hid hO
     have x0 := YF.cellAt 0 (by simp)
     have x1 := YF.cellAt 1 (by simp)
     have x2 := YF.cellAt 2 (by simp)
     have x3 := YF.cellAt 3 (by simp)
     have x4 := YF.cellAt 4 (by simp)
     have z0 := YZ.cellAt 0 (by simp)
     have z1 := YZ.cellAt 1 (by simp)
     have z2 := YZ.cellAt 2 (by simp)
     have z3 := YZ.cellAt 3 (by simp)
     have z4 := YZ.cellAt 4 (by simp)
     simp only [List.getElem_toArray, List.getElem_cons_zero, List.getElem_cons_succ] at x0 x1 x2 x3 x4 z0 z1 z2 z3 z4
     obtain ⟨g0, g1, g2, g3, g4⟩ := frozen5 YZ
     have yl := YZ.lt
     clear Y3 hO YF YZ
     go_wp2
     obtain ⟨q1, q2, q3⟩ := store5 HYZ.out (.int .i64 d.net.sta) (.slice A5 h.n1 d5) (.slice A6 h.n2 d6) (.slice A7 h.n3 d7) (.string d.log)
     obtain ⟨r0, r1, r2, r3, r4⟩ := cells5 q1
     obtain ⟨V, hV⟩ : ∃ y, (((((X.setCell ⟨w.heap.size + 1, 0, none⟩ (.int .i64 d.net.sta)).setCell ⟨w.heap.size + 1, 1, none⟩ (.slice A5 h.n1 d5)).setCell ⟨w.heap.size + 1, 2, none⟩ (.slice A6 h.n2 d6)).setCell ⟨w.heap.size + 1, 3, none⟩ (.slice A7 h.n3 d7)).setCell ⟨w.heap.size + 1, 4, none⟩ (.string d.log)) = y := ⟨_, rfl⟩
     rw [hV] at q3 r0 r1 r2 r3 r4 ⊢
     have hd := copyDone HB.out HZ.out HB5.out HB6.out HB7.out HOX.out q3 HS5.out HS6.out HS7.out
     exact bodyPost_ret (v := .agg #[.int .i64 d.net.sta, .slice A5 h.n1 d5, .slice A6 h.n2 d6, .slice A7 h.n3 d7, .string d.log]) (by simp [results, Tryz.results33, go_sem, r0, r1, r2, r3, r4]) rfl ⟨⟨A5, h.n1, d5, A6, h.n2, d6, A7, h.n3, d7⟩, rh, rfl, hd.1, hd.2⟩
    exact AllReadyH.nil
   refine AllReadyH.cons rfl (fun K hK => ?_) ?_
   ·skip
    go_simp
    refine hK.out _ _ ?_ (fun hNew => ?_)
    ·trivial
    clear hK K hHeld
    have hHeld := hNew
    clear hNew
    try simp only [Act.put, ly]
    refine wpAnyH_ready (rs := [3]) (by kernel_rfl) (by simp) ?_
    refine AllReadyH.cons rfl (fun K hK => ?_) AllReadyH.nil
    go_simp
    refine (cloneT_any h.A1 h.n1 h.c1 B d.net.tubes W.drew HP1.out (HR1.out.keep fun _ _ => rfl) hs.n1).mono ?_
    rintro e w5 ⟨A5, d5, rfl, s5, b5⟩
    have HS5 := Lib.hid s5
    have HB5 := Lib.hid (show Below W.heap.size W w5 from (Below.refl _ _).drew.trans b5)
    replace c1 := cell_on b5 c1
    replace c2 := cell_on b5 c2
    replace c3 := cell_on b5 c3
    clear s5 b5
    go_wp2_with fail
    refine hK.out _ _ ?_ (fun hNew => ?_)
    ·trivial
    clear hK K hHeld
    have hHeld := hNew
    clear hNew
    try simp only [Act.put, ly]
    refine tk 10 rfl ?_ ?_ ?_
    rotate_left
    ·intro w _; go_simp; try with_reducible rfl
    try simp only [Act.put, ly]
    refine tk 11 rfl ?_ ?_ ?_
    rotate_left
    ·intro w _; go_simp; try with_reducible rfl
    try simp only [Act.put, ly]
    refine wpAnyH_ready (rs := [6]) (by kernel_rfl) (by simp) ?_
    refine AllReadyH.cons rfl (fun K hK => ?_) AllReadyH.nil
    go_simp
    refine (cloneI_any h.A2 h.n2 h.c2 B d.times w5 HP2.out (HR2.out.on HBW.out HB5.out) hs.n2).mono ?_
    rintro e w6 ⟨A6, d6, rfl, s6, b6⟩
    have HS6 := Lib.hid s6
    have HB6 := Lib.hid b6
    replace c1 := cell_on b6 c1
    replace c2 := cell_on b6 c2
    replace c3 := cell_on b6 c3
    clear s6 b6
    go_wp2_with fail
    refine hK.out _ _ ?_ (fun hNew => ?_)
    ·trivial
    clear hK K hHeld
    have hHeld := hNew
    clear hNew
    try simp only [Act.put, ly]
    refine wpAnyH_ready (rs := [9]) (by kernel_rfl) (by simp) ?_
    refine AllReadyH.cons rfl (fun K hK => ?_) AllReadyH.nil
    go_simp
    refine (copyRuns_any h.A3 h.n3 h.c3 B d.runs w6 ((HR3.out.on HBW.out HB5.out).on (Nat.le_trans HBW.out HB5.out.size) HB6.out) (Nat.le_trans (Nat.le_trans HBW.out HB5.out.size) HB6.out.size) hs.n3 HWY.out).mono ?_
    rintro e w7 ⟨A7, d7, rh, rfl, s7, b7⟩
    have HS7 := Lib.hid s7
    have HB7 := Lib.hid b7
    replace c1 := cell_on b7 c1
    replace c2 := cell_on b7 c2
    replace c3 := cell_on b7 c3
    have Y7 := ((HY.out.on HB5.out).on HB6.out).on HB7.out
    have f1 := Y7.frozen 1
    have f2 := Y7.frozen 2
    have f3 := Y7.frozen 3
    clear s7 b7
    go_wp2_with fail
    refine hK.out _ _ ?_ (fun hNew => ?_)
    ·trivial
    clear hK K hHeld
    have hHeld := hNew
    clear hNew
    try simp only [Act.put, ly]
    refine wpAnyH_ready (rs := [12]) (by kernel_rfl) (by simp) ?_
    refine AllReadyH.cons rfl (fun K hK => ?_) AllReadyH.nil
    go_simp
    refine hK.out _ _ ?_ (fun hNew => ?_)
    ·trivial
    clear hK K hHeld
    have hHeld := hNew
    clear hNew
    try simp only [Act.put, ly]
    refine tk 13 rfl ?_ ?_ ?_
    rotate_left
    ·intro w _; go_simp; try with_reducible rfl
    try simp only [Act.put, ly]
    refine wpAnyH_ready (rs := [14]) (by kernel_rfl) (by simp) ?_
    refine AllReadyH.cons rfl (fun K hK => ?_) AllReadyH.nil
    have Y8 := Y7.set_ 1 (.slice A5 h.n1 d5)
    have c2b := Y8.cellAt 2 (by simp)
    have f2b := Y8.frozen 2
    go_simp
    refine hK.out _ _ ?_ (fun hNew => ?_)
    ·trivial
    clear hK K hHeld
    have hHeld := hNew
    clear hNew
    try simp only [Act.put, ly]
    refine tk 15 rfl ?_ ?_ ?_
    rotate_left
    ·intro w _; go_simp; try with_reducible rfl
    try simp only [Act.put, ly]
    refine wpAnyH_ready (rs := [16]) (by kernel_rfl) (by simp) ?_
    refine AllReadyH.cons rfl (fun K hK => ?_) AllReadyH.nil
    have Y9 := Y8.set_ 2 (.slice A6 h.n2 d6)
    have c3b := Y9.cellAt 3 (by simp)
    have f3b := Y9.frozen 3
    go_simp
    refine hK.out _ _ ?_ (fun hNew => ?_)
    ·trivial
    clear hK K hHeld
    have hHeld := hNew
    clear hNew
    try simp only [Act.put, ly]
    refine wpAnyH_done (by kernel_rfl) ?_ _
    clear hHeld c1 c2 c3 f1 f2 f3
    have Y3 := Y9.set_ 3 (.slice A7 h.n3 d7)
    clear Y7 Y8 Y9
    have hO : Only w.heap.size (w.heap.size + 1) w7 (((w7.setCell ⟨w.heap.size, 1, none⟩ (.slice A5 h.n1 d5)).setCell ⟨w.heap.size, 2, none⟩ (.slice A6 h.n2 d6)).setCell ⟨w.heap.size, 3, none⟩ (.slice A7 h.n3 d7)) := (((Only.refl w.heap.size (w.heap.size + 1) w7).setCell (p := ⟨w.heap.size, 1, none⟩) (Nat.le_refl _) (Nat.lt_succ_self _) _).setCell (p := ⟨w.heap.size, 2, none⟩) (Nat.le_refl _) (Nat.lt_succ_self _) _).setCell (p := ⟨w.heap.size, 3, none⟩) (Nat.le_refl _) (Nat.lt_succ_self _) _
    obtain ⟨X, hX⟩ : ∃ y, ((w7.setCell ⟨w.heap.size, 1, none⟩ (.slice A5 h.n1 d5)).setCell ⟨w.heap.size, 2, none⟩ (.slice A6 h.n2 d6)).setCell ⟨w.heap.size, 3, none⟩ (.slice A7 h.n3 d7) = y := ⟨_, rfl⟩
    rw [hX] at Y3 hO ⊢
    clear hX
    have YF : Blk X w.heap.size 32 #[.int .i64 d.net.sta, .slice A5 h.n1 d5, .slice A6 h.n2 d6, .slice A7 h.n3 d7, .string d.log] := by simpa using Y3
    have YZ := (((HY2.out.on HB5.out).on HB6.out).on HB7.out).keepOnly hO (.inr (Nat.le_refl _))
    have HYZ := Lib.hid YZ
    have HOX := Lib.hid hO
    have x0 := YF.cellAt 0 (by simp)
    have x1 := YF.cellAt 1 (by simp)
    have x2 := YF.cellAt 2 (by simp)
    have x3 := YF.cellAt 3 (by simp)
    have x4 := YF.cellAt 4 (by simp)
    have z0 := YZ.cellAt 0 (by simp)
    have z1 := YZ.cellAt 1 (by simp)
    have z2 := YZ.cellAt 2 (by simp)
    have z3 := YZ.cellAt 3 (by simp)
    have z4 := YZ.cellAt 4 (by simp)
    simp only [List.getElem_toArray, List.getElem_cons_zero, List.getElem_cons_succ] at x0 x1 x2 x3 x4 z0 z1 z2 z3 z4
    obtain ⟨g0, g1, g2, g3, g4⟩ := frozen5 YZ
    have yl := YZ.lt
    clear Y3 hO YF YZ
    go_wp2
    obtain ⟨q1, q2, q3⟩ := store5 HYZ.out (.int .i64 d.net.sta) (.slice A5 h.n1 d5) (.slice A6 h.n2 d6) (.slice A7 h.n3 d7) (.string d.log)
    obtain ⟨r0, r1, r2, r3, r4⟩ := cells5 q1
    obtain ⟨V, hV⟩ : ∃ y, (((((X.setCell ⟨w.heap.size + 1, 0, none⟩ (.int .i64 d.net.sta)).setCell ⟨w.heap.size + 1, 1, none⟩ (.slice A5 h.n1 d5)).setCell ⟨w.heap.size + 1, 2, none⟩ (.slice A6 h.n2 d6)).setCell ⟨w.heap.size + 1, 3, none⟩ (.slice A7 h.n3 d7)).setCell ⟨w.heap.size + 1, 4, none⟩ (.string d.log)) = y := ⟨_, rfl⟩
    rw [hV] at q3 r0 r1 r2 r3 r4 ⊢
    have hd := copyDone HB.out HZ.out HB5.out HB6.out HB7.out HOX.out q3 HS5.out HS6.out HS7.out
    exact bodyPost_ret (v := .agg #[.int .i64 d.net.sta, .slice A5 h.n1 d5, .slice A6 h.n2 d6, .slice A7 h.n3 d7, .string d.log]) (by simp [results, Tryz.results33, go_sem, r0, r1, r2, r3, r4]) rfl ⟨⟨A5, h.n1, d5, A6, h.n2, d6, A7, h.n3, d7⟩, rh, rfl, hd.1, hd.2⟩
   exact AllReadyH.nil
  refine AllReadyH.cons rfl (fun K hK => ?_) ?_
  ·skip
   go_simp
   refine hK.out _ _ ?_ (fun hNew => ?_)
   ·trivial
   clear hK K hHeld
   have hHeld := hNew
   clear hNew
   try simp only [Act.put, ly]
   refine wpAnyH_ready (rs := [2]) (by kernel_rfl) (by simp) ?_
   refine AllReadyH.cons rfl (fun K hK => ?_) AllReadyH.nil
   go_simp
   refine hK.out _ _ ?_ (fun hNew => ?_)
   ·trivial
   clear hK K hHeld
   have hHeld := hNew
   clear hNew
   try simp only [Act.put, ly]
   refine wpAnyH_ready (rs := [3]) (by kernel_rfl) (by simp) ?_
   refine AllReadyH.cons rfl (fun K hK => ?_) AllReadyH.nil
   go_simp
   refine (cloneT_any h.A1 h.n1 h.c1 B d.net.tubes W.drew HP1.out (HR1.out.keep fun _ _ => rfl) hs.n1).mono ?_
   rintro e w5 ⟨A5, d5, rfl, s5, b5⟩
   have HS5 := Lib.hid s5
   have HB5 := Lib.hid (show Below W.heap.size W w5 from (Below.refl _ _).drew.trans b5)
   replace c1 := cell_on b5 c1
   replace c2 := cell_on b5 c2
   replace c3 := cell_on b5 c3
   clear s5 b5
   go_wp2_with fail
   refine hK.out _ _ ?_ (fun hNew => ?_)
   ·trivial
   clear hK K hHeld
   have hHeld := hNew
   clear hNew
   try simp only [Act.put, ly]
   refine tk 10 rfl ?_ ?_ ?_
   rotate_left
   ·intro w _; go_simp; try with_reducible rfl
   try simp only [Act.put, ly]
   refine tk 11 rfl ?_ ?_ ?_
   rotate_left
   ·intro w _; go_simp; try with_reducible rfl
   try simp only [Act.put, ly]
   refine wpAnyH_ready (rs := [6]) (by kernel_rfl) (by simp) ?_
   refine AllReadyH.cons rfl (fun K hK => ?_) AllReadyH.nil
   go_simp
   refine (cloneI_any h.A2 h.n2 h.c2 B d.times w5 HP2.out (HR2.out.on HBW.out HB5.out) hs.n2).mono ?_
   rintro e w6 ⟨A6, d6, rfl, s6, b6⟩
   have HS6 := Lib.hid s6
   have HB6 := Lib.hid b6
   replace c1 := cell_on b6 c1
   replace c2 := cell_on b6 c2
   replace c3 := cell_on b6 c3
   clear s6 b6
   go_wp2_with fail
   refine hK.out _ _ ?_ (fun hNew => ?_)
   ·trivial
   clear hK K hHeld
   have hHeld := hNew
   clear hNew
   try simp only [Act.put, ly]
   refine wpAnyH_ready (rs := [9]) (by kernel_rfl) (by simp) ?_
   refine AllReadyH.cons rfl (fun K hK => ?_) AllReadyH.nil
   go_simp
   refine (copyRuns_any h.A3 h.n3 h.c3 B d.runs w6 ((HR3.out.on HBW.out HB5.out).on (Nat.le_trans HBW.out HB5.out.size) HB6.out) (Nat.le_trans (Nat.le_trans HBW.out HB5.out.size) HB6.out.size) hs.n3 HWY.out).mono ?_
   rintro e w7 ⟨A7, d7, rh, rfl, s7, b7⟩
   have HS7 := Lib.hid s7
   have HB7 := Lib.hid b7
   replace c1 := cell_on b7 c1
   replace c2 := cell_on b7 c2
   replace c3 := cell_on b7 c3
   have Y7 := ((HY.out.on HB5.out).on HB6.out).on HB7.out
   have f1 := Y7.frozen 1
   have f2 := Y7.frozen 2
   have f3 := Y7.frozen 3
   clear s7 b7
   go_wp2_with fail
   refine hK.out _ _ ?_ (fun hNew => ?_)
   ·trivial
   clear hK K hHeld
   have hHeld := hNew
   clear hNew
   try simp only [Act.put, ly]
   refine wpAnyH_ready (rs := [12]) (by kernel_rfl) (by simp) ?_
   refine AllReadyH.cons rfl (fun K hK => ?_) AllReadyH.nil
   go_simp
   refine hK.out _ _ ?_ (fun hNew => ?_)
   ·trivial
   clear hK K hHeld
   have hHeld := hNew
   clear hNew
   try simp only [Act.put, ly]
   refine tk 13 rfl ?_ ?_ ?_
   rotate_left
   ·intro w _; go_simp; try with_reducible rfl
   try simp only [Act.put, ly]
   refine wpAnyH_ready (rs := [14]) (by kernel_rfl) (by simp) ?_
   refine AllReadyH.cons rfl (fun K hK => ?_) AllReadyH.nil
   have Y8 := Y7.set_ 1 (.slice A5 h.n1 d5)
   have c2b := Y8.cellAt 2 (by simp)
   have f2b := Y8.frozen 2
   go_simp
   refine hK.out _ _ ?_ (fun hNew => ?_)
   ·trivial
   clear hK K hHeld
   have hHeld := hNew
   clear hNew
   try simp only [Act.put, ly]
   refine tk 15 rfl ?_ ?_ ?_
   rotate_left
   ·intro w _; go_simp; try with_reducible rfl
   try simp only [Act.put, ly]
   refine wpAnyH_ready (rs := [16]) (by kernel_rfl) (by simp) ?_
   refine AllReadyH.cons rfl (fun K hK => ?_) AllReadyH.nil
   have Y9 := Y8.set_ 2 (.slice A6 h.n2 d6)
   have c3b := Y9.cellAt 3 (by simp)
   have f3b := Y9.frozen 3
   go_simp
   refine hK.out _ _ ?_ (fun hNew => ?_)
   ·trivial
   clear hK K hHeld
   have hHeld := hNew
   clear hNew
   try simp only [Act.put, ly]
   refine wpAnyH_done (by kernel_rfl) ?_ _
   clear hHeld c1 c2 c3 f1 f2 f3
   have Y3 := Y9.set_ 3 (.slice A7 h.n3 d7)
   clear Y7 Y8 Y9
   have hO : Only w.heap.size (w.heap.size + 1) w7 (((w7.setCell ⟨w.heap.size, 1, none⟩ (.slice A5 h.n1 d5)).setCell ⟨w.heap.size, 2, none⟩ (.slice A6 h.n2 d6)).setCell ⟨w.heap.size, 3, none⟩ (.slice A7 h.n3 d7)) := (((Only.refl w.heap.size (w.heap.size + 1) w7).setCell (p := ⟨w.heap.size, 1, none⟩) (Nat.le_refl _) (Nat.lt_succ_self _) _).setCell (p := ⟨w.heap.size, 2, none⟩) (Nat.le_refl _) (Nat.lt_succ_self _) _).setCell (p := ⟨w.heap.size, 3, none⟩) (Nat.le_refl _) (Nat.lt_succ_self _) _
   obtain ⟨X, hX⟩ : ∃ y, ((w7.setCell ⟨w.heap.size, 1, none⟩ (.slice A5 h.n1 d5)).setCell ⟨w.heap.size, 2, none⟩ (.slice A6 h.n2 d6)).setCell ⟨w.heap.size, 3, none⟩ (.slice A7 h.n3 d7) = y := ⟨_, rfl⟩
   rw [hX] at Y3 hO ⊢
   clear hX
   have YF : Blk X w.heap.size 32 #[.int .i64 d.net.sta, .slice A5 h.n1 d5, .slice A6 h.n2 d6, .slice A7 h.n3 d7, .string d.log] := by simpa using Y3
   have YZ := (((HY2.out.on HB5.out).on HB6.out).on HB7.out).keepOnly hO (.inr (Nat.le_refl _))
   have HYZ := Lib.hid YZ
   have HOX := Lib.hid hO
   have x0 := YF.cellAt 0 (by simp)
   have x1 := YF.cellAt 1 (by simp)
   have x2 := YF.cellAt 2 (by simp)
   have x3 := YF.cellAt 3 (by simp)
   have x4 := YF.cellAt 4 (by simp)
   have z0 := YZ.cellAt 0 (by simp)
   have z1 := YZ.cellAt 1 (by simp)
   have z2 := YZ.cellAt 2 (by simp)
   have z3 := YZ.cellAt 3 (by simp)
   have z4 := YZ.cellAt 4 (by simp)
   simp only [List.getElem_toArray, List.getElem_cons_zero, List.getElem_cons_succ] at x0 x1 x2 x3 x4 z0 z1 z2 z3 z4
   obtain ⟨g0, g1, g2, g3, g4⟩ := frozen5 YZ
   have yl := YZ.lt
   clear Y3 hO YF YZ
   go_wp2
   obtain ⟨q1, q2, q3⟩ := store5 HYZ.out (.int .i64 d.net.sta) (.slice A5 h.n1 d5) (.slice A6 h.n2 d6) (.slice A7 h.n3 d7) (.string d.log)
   obtain ⟨r0, r1, r2, r3, r4⟩ := cells5 q1
   obtain ⟨V, hV⟩ : ∃ y, (((((X.setCell ⟨w.heap.size + 1, 0, none⟩ (.int .i64 d.net.sta)).setCell ⟨w.heap.size + 1, 1, none⟩ (.slice A5 h.n1 d5)).setCell ⟨w.heap.size + 1, 2, none⟩ (.slice A6 h.n2 d6)).setCell ⟨w.heap.size + 1, 3, none⟩ (.slice A7 h.n3 d7)).setCell ⟨w.heap.size + 1, 4, none⟩ (.string d.log)) = y := ⟨_, rfl⟩
   rw [hV] at q3 r0 r1 r2 r3 r4 ⊢
   have hd := copyDone HB.out HZ.out HB5.out HB6.out HB7.out HOX.out q3 HS5.out HS6.out HS7.out
   exact bodyPost_ret (v := .agg #[.int .i64 d.net.sta, .slice A5 h.n1 d5, .slice A6 h.n2 d6, .slice A7 h.n3 d7, .string d.log]) (by simp [results, Tryz.results33, go_sem, r0, r1, r2, r3, r4]) rfl ⟨⟨A5, h.n1, d5, A6, h.n2, d6, A7, h.n3, d7⟩, rh, rfl, hd.1, hd.2⟩
  exact AllReadyH.nil
 refine AllReadyH.cons rfl (fun K hK => ?_) ?_
 ·skip
  go_simp
  refine hK.out _ _ ?_ (fun hNew => ?_)
  ·trivial
  clear hK K hHeld
  have hHeld := hNew
  clear hNew
  try simp only [Act.put, ly]
  refine wpAnyH_ready (rs := [2, 5]) (by kernel_rfl) (by simp) ?_
  refine AllReadyH.cons rfl (fun K hK => ?_) ?_
  ·skip
   go_simp
   refine hK.out _ _ ?_ (fun hNew => ?_)
   ·trivial
   clear hK K hHeld
   have hHeld := hNew
   clear hNew
   try simp only [Act.put, ly]
   refine wpAnyH_ready (rs := [3, 5]) (by kernel_rfl) (by simp) ?_
   refine AllReadyH.cons rfl (fun K hK => ?_) ?_
   ·skip
    go_simp
    refine (cloneT_any h.A1 h.n1 h.c1 B d.net.tubes W.drew HP1.out (HR1.out.keep fun _ _ => rfl) hs.n1).mono ?_
    rintro e w5 ⟨A5, d5, rfl, s5, b5⟩
    have HS5 := Lib.hid s5
    have HB5 := Lib.hid (show Below W.heap.size W w5 from (Below.refl _ _).drew.trans b5)
    replace c1 := cell_on b5 c1
    replace c2 := cell_on b5 c2
    replace c3 := cell_on b5 c3
    clear s5 b5
    go_wp2_with fail
    refine hK.out _ _ ?_ (fun hNew => ?_)
    ·trivial
    clear hK K hHeld
    have hHeld := hNew
    clear hNew
    try simp only [Act.put, ly]
    refine wpAnyH_ready (rs := [5]) (by kernel_rfl) (by simp) ?_
    refine AllReadyH.cons rfl (fun K hK => ?_) AllReadyH.nil
    go_simp
    refine hK.out _ _ ?_ (fun hNew => ?_)
    ·trivial
    clear hK K hHeld
    have hHeld := hNew
    clear hNew
    try simp only [Act.put, ly]
    refine tk 10 rfl ?_ ?_ ?_
    rotate_left
    ·intro w _; go_simp; try with_reducible rfl
    try simp only [Act.put, ly]
    refine tk 11 rfl ?_ ?_ ?_
    rotate_left
    ·intro w _; go_simp; try with_reducible rfl
    try simp only [Act.put, ly]
    refine wpAnyH_ready (rs := [6]) (by kernel_rfl) (by simp) ?_
    refine AllReadyH.cons rfl (fun K hK => ?_) AllReadyH.nil
    go_simp
    refine (cloneI_any h.A2 h.n2 h.c2 B d.times w5 HP2.out (HR2.out.on HBW.out HB5.out) hs.n2).mono ?_
    rintro e w6 ⟨A6, d6, rfl, s6, b6⟩
    have HS6 := Lib.hid s6
    have HB6 := Lib.hid b6
    replace c1 := cell_on b6 c1
    replace c2 := cell_on b6 c2
    replace c3 := cell_on b6 c3
    clear s6 b6
    go_wp2_with fail
    refine hK.out _ _ ?_ (fun hNew => ?_)
    ·trivial
    clear hK K hHeld
    have hHeld := hNew
    clear hNew
    try simp only [Act.put, ly]
    refine wpAnyH_ready (rs := [9]) (by kernel_rfl) (by simp) ?_
    refine AllReadyH.cons rfl (fun K hK => ?_) AllReadyH.nil
    go_simp
    refine (copyRuns_any h.A3 h.n3 h.c3 B d.runs w6 ((HR3.out.on HBW.out HB5.out).on (Nat.le_trans HBW.out HB5.out.size) HB6.out) (Nat.le_trans (Nat.le_trans HBW.out HB5.out.size) HB6.out.size) hs.n3 HWY.out).mono ?_
    rintro e w7 ⟨A7, d7, rh, rfl, s7, b7⟩
    have HS7 := Lib.hid s7
    have HB7 := Lib.hid b7
    replace c1 := cell_on b7 c1
    replace c2 := cell_on b7 c2
    replace c3 := cell_on b7 c3
    have Y7 := ((HY.out.on HB5.out).on HB6.out).on HB7.out
    have f1 := Y7.frozen 1
    have f2 := Y7.frozen 2
    have f3 := Y7.frozen 3
    clear s7 b7
    go_wp2_with fail
    refine hK.out _ _ ?_ (fun hNew => ?_)
    ·trivial
    clear hK K hHeld
    have hHeld := hNew
    clear hNew
    try simp only [Act.put, ly]
    refine wpAnyH_ready (rs := [12]) (by kernel_rfl) (by simp) ?_
    refine AllReadyH.cons rfl (fun K hK => ?_) AllReadyH.nil
    go_simp
    refine hK.out _ _ ?_ (fun hNew => ?_)
    ·trivial
    clear hK K hHeld
    have hHeld := hNew
    clear hNew
    try simp only [Act.put, ly]
    refine tk 13 rfl ?_ ?_ ?_
    rotate_left
    ·intro w _; go_simp; try with_reducible rfl
    try simp only [Act.put, ly]
    refine wpAnyH_ready (rs := [14]) (by kernel_rfl) (by simp) ?_
    refine AllReadyH.cons rfl (fun K hK => ?_) AllReadyH.nil
    have Y8 := Y7.set_ 1 (.slice A5 h.n1 d5)
    have c2b := Y8.cellAt 2 (by simp)
    have f2b := Y8.frozen 2
    go_simp
    refine hK.out _ _ ?_ (fun hNew => ?_)
    ·trivial
    clear hK K hHeld
    have hHeld := hNew
    clear hNew
    try simp only [Act.put, ly]
    refine tk 15 rfl ?_ ?_ ?_
    rotate_left
    ·intro w _; go_simp; try with_reducible rfl
    try simp only [Act.put, ly]
    refine wpAnyH_ready (rs := [16]) (by kernel_rfl) (by simp) ?_
    refine AllReadyH.cons rfl (fun K hK => ?_) AllReadyH.nil
    have Y9 := Y8.set_ 2 (.slice A6 h.n2 d6)
    have c3b := Y9.cellAt 3 (by simp)
    have f3b := Y9.frozen 3
    go_simp
    refine hK.out _ _ ?_ (fun hNew => ?_)
    ·trivial
    clear hK K hHeld
    have hHeld := hNew
    clear hNew
    try simp only [Act.put, ly]
    refine wpAnyH_done (by kernel_rfl) ?_ _
    clear hHeld c1 c2 c3 f1 f2 f3
    have Y3 := Y9.set_ 3 (.slice A7 h.n3 d7)
    clear Y7 Y8 Y9
    have hO : Only w.heap.size (w.heap.size + 1) w7 (((w7.setCell ⟨w.heap.size, 1, none⟩ (.slice A5 h.n1 d5)).setCell ⟨w.heap.size, 2, none⟩ (.slice A6 h.n2 d6)).setCell ⟨w.heap.size, 3, none⟩ (.slice A7 h.n3 d7)) := (((Only.refl w.heap.size (w.heap.size + 1) w7).setCell (p := ⟨w.heap.size, 1, none⟩) (Nat.le_refl _) (Nat.lt_succ_self _) _).setCell (p := ⟨w.heap.size, 2, none⟩) (Nat.le_refl _) (Nat.lt_succ_self _) _).setCell (p := ⟨w.heap.size, 3, none⟩) (Nat.le_refl _) (Nat.lt_succ_self _) _
    obtain ⟨X, hX⟩ : ∃ y, ((w7.setCell ⟨w.heap.size, 1, none⟩ (.slice A5 h.n1 d5)).setCell ⟨w.heap.size, 2, none⟩ (.slice A6 h.n2 d6)).setCell ⟨w.heap.size, 3, none⟩ (.slice A7 h.n3 d7) = y := ⟨_, rfl⟩
    rw [hX] at Y3 hO ⊢
    clear hX
    have YF : Blk X w.heap.size 32 #[.int .i64 d.net.sta, .slice A5 h.n1 d5, .slice A6 h.n2 d6, .slice A7 h.n3 d7, .string d.log] := by simpa using Y3
    have YZ := (((HY2.out.on HB5.out).on HB6.out).on HB7.out).keepOnly hO (.inr (Nat.le_refl _))
    have HYZ := Lib.hid YZ
    have HOX := Lib.hid hO
    have x0 := YF.cellAt 0 (by simp)
    have x1 := YF.cellAt 1 (by simp)
    have x2 := YF.cellAt 2 (by simp)
    have x3 := YF.cellAt 3 (by simp)
    have x4 := YF.cellAt 4 (by simp)
    have z0 := YZ.cellAt 0 (by simp)
    have z1 := YZ.cellAt 1 (by simp)
    have z2 := YZ.cellAt 2 (by simp)
    have z3 := YZ.cellAt 3 (by simp)
    have z4 := YZ.cellAt 4 (by simp)
    simp only [List.getElem_toArray, List.getElem_cons_zero, List.getElem_cons_succ] at x0 x1 x2 x3 x4 z0 z1 z2 z3 z4
    obtain ⟨g0, g1, g2, g3, g4⟩ := frozen5 YZ
    have yl := YZ.lt
    clear Y3 hO YF YZ
    go_wp2
    obtain ⟨q1, q2, q3⟩ := store5 HYZ.out (.int .i64 d.net.sta) (.slice A5 h.n1 d5) (.slice A6 h.n2 d6) (.slice A7 h.n3 d7) (.string d.log)
    obtain ⟨r0, r1, r2, r3, r4⟩ := cells5 q1
    obtain ⟨V, hV⟩ : ∃ y, (((((X.setCell ⟨w.heap.size + 1, 0, none⟩ (.int .i64 d.net.sta)).setCell ⟨w.heap.size + 1, 1, none⟩ (.slice A5 h.n1 d5)).setCell ⟨w.heap.size + 1, 2, none⟩ (.slice A6 h.n2 d6)).setCell ⟨w.heap.size + 1, 3, none⟩ (.slice A7 h.n3 d7)).setCell ⟨w.heap.size + 1, 4, none⟩ (.string d.log)) = y := ⟨_, rfl⟩
    rw [hV] at q3 r0 r1 r2 r3 r4 ⊢
    have hd := copyDone HB.out HZ.out HB5.out HB6.out HB7.out HOX.out q3 HS5.out HS6.out HS7.out
    exact bodyPost_ret (v := .agg #[.int .i64 d.net.sta, .slice A5 h.n1 d5, .slice A6 h.n2 d6, .slice A7 h.n3 d7, .string d.log]) (by simp [results, Tryz.results33, go_sem, r0, r1, r2, r3, r4]) rfl ⟨⟨A5, h.n1, d5, A6, h.n2, d6, A7, h.n3, d7⟩, rh, rfl, hd.1, hd.2⟩
   refine AllReadyH.cons rfl (fun K hK => ?_) ?_
   ·skip
    go_simp
    refine hK.out _ _ ?_ (fun hNew => ?_)
    ·trivial
    clear hK K hHeld
    have hHeld := hNew
    clear hNew
    try simp only [Act.put, ly]
    refine wpAnyH_ready (rs := [3]) (by kernel_rfl) (by simp) ?_
    refine AllReadyH.cons rfl (fun K hK => ?_) AllReadyH.nil
    go_simp
    refine (cloneT_any h.A1 h.n1 h.c1 B d.net.tubes W.drew HP1.out (HR1.out.keep fun _ _ => rfl) hs.n1).mono ?_
    rintro e w5 ⟨A5, d5, rfl, s5, b5⟩
    have HS5 := Lib.hid s5
    have HB5 := Lib.hid (show Below W.heap.size W w5 from (Below.refl _ _).drew.trans b5)
    replace c1 := cell_on b5 c1
    replace c2 := cell_on b5 c2
    replace c3 := cell_on b5 c3
    clear s5 b5
    go_wp2_with fail
    refine hK.out _ _ ?_ (fun hNew => ?_)
    ·trivial
    clear hK K hHeld
    have hHeld := hNew
    clear hNew
    try simp only [Act.put, ly]
    refine tk 10 rfl ?_ ?_ ?_
    rotate_left
    ·intro w _; go_simp; try with_reducible rfl
    try simp only [Act.put, ly]
    refine tk 11 rfl ?_ ?_ ?_
    rotate_left
    ·intro w _; go_simp; try with_reducible rfl
    try simp only [Act.put, ly]
    refine wpAnyH_ready (rs := [6]) (by kernel_rfl) (by simp) ?_
    refine AllReadyH.cons rfl (fun K hK => ?_) AllReadyH.nil
    go_simp
    refine (cloneI_any h.A2 h.n2 h.c2 B d.times w5 HP2.out (HR2.out.on HBW.out HB5.out) hs.n2).mono ?_
    rintro e w6 ⟨A6, d6, rfl, s6, b6⟩
    have HS6 := Lib.hid s6
    have HB6 := Lib.hid b6
    replace c1 := cell_on b6 c1
    replace c2 := cell_on b6 c2
    replace c3 := cell_on b6 c3
    clear s6 b6
    go_wp2_with fail
    refine hK.out _ _ ?_ (fun hNew => ?_)
    ·trivial
    clear hK K hHeld
    have hHeld := hNew
    clear hNew
    try simp only [Act.put, ly]
    refine wpAnyH_ready (rs := [9]) (by kernel_rfl) (by simp) ?_
    refine AllReadyH.cons rfl (fun K hK => ?_) AllReadyH.nil
    go_simp
    refine (copyRuns_any h.A3 h.n3 h.c3 B d.runs w6 ((HR3.out.on HBW.out HB5.out).on (Nat.le_trans HBW.out HB5.out.size) HB6.out) (Nat.le_trans (Nat.le_trans HBW.out HB5.out.size) HB6.out.size) hs.n3 HWY.out).mono ?_
    rintro e w7 ⟨A7, d7, rh, rfl, s7, b7⟩
    have HS7 := Lib.hid s7
    have HB7 := Lib.hid b7
    replace c1 := cell_on b7 c1
    replace c2 := cell_on b7 c2
    replace c3 := cell_on b7 c3
    have Y7 := ((HY.out.on HB5.out).on HB6.out).on HB7.out
    have f1 := Y7.frozen 1
    have f2 := Y7.frozen 2
    have f3 := Y7.frozen 3
    clear s7 b7
    go_wp2_with fail
    refine hK.out _ _ ?_ (fun hNew => ?_)
    ·trivial
    clear hK K hHeld
    have hHeld := hNew
    clear hNew
    try simp only [Act.put, ly]
    refine wpAnyH_ready (rs := [12]) (by kernel_rfl) (by simp) ?_
    refine AllReadyH.cons rfl (fun K hK => ?_) AllReadyH.nil
    go_simp
    refine hK.out _ _ ?_ (fun hNew => ?_)
    ·trivial
    clear hK K hHeld
    have hHeld := hNew
    clear hNew
    try simp only [Act.put, ly]
    refine tk 13 rfl ?_ ?_ ?_
    rotate_left
    ·intro w _; go_simp; try with_reducible rfl
    try simp only [Act.put, ly]
    refine wpAnyH_ready (rs := [14]) (by kernel_rfl) (by simp) ?_
    refine AllReadyH.cons rfl (fun K hK => ?_) AllReadyH.nil
    have Y8 := Y7.set_ 1 (.slice A5 h.n1 d5)
    have c2b := Y8.cellAt 2 (by simp)
    have f2b := Y8.frozen 2
    go_simp
    refine hK.out _ _ ?_ (fun hNew => ?_)
    ·trivial
    clear hK K hHeld
    have hHeld := hNew
    clear hNew
    try simp only [Act.put, ly]
    refine tk 15 rfl ?_ ?_ ?_
    rotate_left
    ·intro w _; go_simp; try with_reducible rfl
    try simp only [Act.put, ly]
    refine wpAnyH_ready (rs := [16]) (by kernel_rfl) (by simp) ?_
    refine AllReadyH.cons rfl (fun K hK => ?_) AllReadyH.nil
    have Y9 := Y8.set_ 2 (.slice A6 h.n2 d6)
    have c3b := Y9.cellAt 3 (by simp)
    have f3b := Y9.frozen 3
    go_simp
    refine hK.out _ _ ?_ (fun hNew => ?_)
    ·trivial
    clear hK K hHeld
    have hHeld := hNew
    clear hNew
    try simp only [Act.put, ly]
    refine wpAnyH_done (by kernel_rfl) ?_ _
    clear hHeld c1 c2 c3 f1 f2 f3
    have Y3 := Y9.set_ 3 (.slice A7 h.n3 d7)
    clear Y7 Y8 Y9
    have hO : Only w.heap.size (w.heap.size + 1) w7 (((w7.setCell ⟨w.heap.size, 1, none⟩ (.slice A5 h.n1 d5)).setCell ⟨w.heap.size, 2, none⟩ (.slice A6 h.n2 d6)).setCell ⟨w.heap.size, 3, none⟩ (.slice A7 h.n3 d7)) := (((Only.refl w.heap.size (w.heap.size + 1) w7).setCell (p := ⟨w.heap.size, 1, none⟩) (Nat.le_refl _) (Nat.lt_succ_self _) _).setCell (p := ⟨w.heap.size, 2, none⟩) (Nat.le_refl _) (Nat.lt_succ_self _) _).setCell (p := ⟨w.heap.size, 3, none⟩) (Nat.le_refl _) (Nat.lt_succ_self _) _
    obtain ⟨X, hX⟩ : ∃ y, ((w7.setCell ⟨w.heap.size, 1, none⟩ (.slice A5 h.n1 d5)).setCell ⟨w.heap.size, 2, none⟩ (.slice A6 h.n2 d6)).setCell ⟨w.heap.size, 3, none⟩ (.slice A7 h.n3 d7) = y := ⟨_, rfl⟩
    rw [hX] at Y3 hO ⊢
    clear hX
    have YF : Blk X w.heap.size 32 #[.int .i64 d.net.sta, .slice A5 h.n1 d5, .slice A6 h.n2 d6, .slice A7 h.n3 d7, .string d.log] := by simpa using Y3
    have YZ := (((HY2.out.on HB5.out).on HB6.out).on HB7.out).keepOnly hO (.inr (Nat.le_refl _))
    have HYZ := Lib.hid YZ
    have HOX := Lib.hid hO
    have x0 := YF.cellAt 0 (by simp)
    have x1 := YF.cellAt 1 (by simp)
    have x2 := YF.cellAt 2 (by simp)
    have x3 := YF.cellAt 3 (by simp)
    have x4 := YF.cellAt 4 (by simp)
    have z0 := YZ.cellAt 0 (by simp)
    have z1 := YZ.cellAt 1 (by simp)
    have z2 := YZ.cellAt 2 (by simp)
    have z3 := YZ.cellAt 3 (by simp)
    have z4 := YZ.cellAt 4 (by simp)
    simp only [List.getElem_toArray, List.getElem_cons_zero, List.getElem_cons_succ] at x0 x1 x2 x3 x4 z0 z1 z2 z3 z4
    obtain ⟨g0, g1, g2, g3, g4⟩ := frozen5 YZ
    have yl := YZ.lt
    clear Y3 hO YF YZ
    go_wp2
    obtain ⟨q1, q2, q3⟩ := store5 HYZ.out (.int .i64 d.net.sta) (.slice A5 h.n1 d5) (.slice A6 h.n2 d6) (.slice A7 h.n3 d7) (.string d.log)
    obtain ⟨r0, r1, r2, r3, r4⟩ := cells5 q1
    obtain ⟨V, hV⟩ : ∃ y, (((((X.setCell ⟨w.heap.size + 1, 0, none⟩ (.int .i64 d.net.sta)).setCell ⟨w.heap.size + 1, 1, none⟩ (.slice A5 h.n1 d5)).setCell ⟨w.heap.size + 1, 2, none⟩ (.slice A6 h.n2 d6)).setCell ⟨w.heap.size + 1, 3, none⟩ (.slice A7 h.n3 d7)).setCell ⟨w.heap.size + 1, 4, none⟩ (.string d.log)) = y := ⟨_, rfl⟩
    rw [hV] at q3 r0 r1 r2 r3 r4 ⊢
    have hd := copyDone HB.out HZ.out HB5.out HB6.out HB7.out HOX.out q3 HS5.out HS6.out HS7.out
    exact bodyPost_ret (v := .agg #[.int .i64 d.net.sta, .slice A5 h.n1 d5, .slice A6 h.n2 d6, .slice A7 h.n3 d7, .string d.log]) (by simp [results, Tryz.results33, go_sem, r0, r1, r2, r3, r4]) rfl ⟨⟨A5, h.n1, d5, A6, h.n2, d6, A7, h.n3, d7⟩, rh, rfl, hd.1, hd.2⟩
   exact AllReadyH.nil
  refine AllReadyH.cons rfl (fun K hK => ?_) ?_
  ·skip
   go_simp
   refine hK.out _ _ ?_ (fun hNew => ?_)
   ·trivial
   clear hK K hHeld
   have hHeld := hNew
   clear hNew
   try simp only [Act.put, ly]
   refine wpAnyH_ready (rs := [2]) (by kernel_rfl) (by simp) ?_
   refine AllReadyH.cons rfl (fun K hK => ?_) AllReadyH.nil
   go_simp
   refine hK.out _ _ ?_ (fun hNew => ?_)
   ·trivial
   clear hK K hHeld
   have hHeld := hNew
   clear hNew
   try simp only [Act.put, ly]
   refine wpAnyH_ready (rs := [3]) (by kernel_rfl) (by simp) ?_
   refine AllReadyH.cons rfl (fun K hK => ?_) AllReadyH.nil
   go_simp
   refine (cloneT_any h.A1 h.n1 h.c1 B d.net.tubes W.drew HP1.out (HR1.out.keep fun _ _ => rfl) hs.n1).mono ?_
   rintro e w5 ⟨A5, d5, rfl, s5, b5⟩
   have HS5 := Lib.hid s5
   have HB5 := Lib.hid (show Below W.heap.size W w5 from (Below.refl _ _).drew.trans b5)
   replace c1 := cell_on b5 c1
   replace c2 := cell_on b5 c2
   replace c3 := cell_on b5 c3
   clear s5 b5
   go_wp2_with fail
   refine hK.out _ _ ?_ (fun hNew => ?_)
   ·trivial
   clear hK K hHeld
   have hHeld := hNew
   clear hNew
   try simp only [Act.put, ly]
   refine tk 10 rfl ?_ ?_ ?_
   rotate_left
   ·intro w _; go_simp; try with_reducible rfl
   try simp only [Act.put, ly]
   refine tk 11 rfl ?_ ?_ ?_
   rotate_left
   ·intro w _; go_simp; try with_reducible rfl
   try simp only [Act.put, ly]
   refine wpAnyH_ready (rs := [6]) (by kernel_rfl) (by simp) ?_
   refine AllReadyH.cons rfl (fun K hK => ?_) AllReadyH.nil
   go_simp
   refine (cloneI_any h.A2 h.n2 h.c2 B d.times w5 HP2.out (HR2.out.on HBW.out HB5.out) hs.n2).mono ?_
   rintro e w6 ⟨A6, d6, rfl, s6, b6⟩
   have HS6 := Lib.hid s6
   have HB6 := Lib.hid b6
   replace c1 := cell_on b6 c1
   replace c2 := cell_on b6 c2
   replace c3 := cell_on b6 c3
   clear s6 b6
   go_wp2_with fail
   refine hK.out _ _ ?_ (fun hNew => ?_)
   ·trivial
   clear hK K hHeld
   have hHeld := hNew
   clear hNew
   try simp only [Act.put, ly]
   refine wpAnyH_ready (rs := [9]) (by kernel_rfl) (by simp) ?_
   refine AllReadyH.cons rfl (fun K hK => ?_) AllReadyH.nil
   go_simp
   refine (copyRuns_any h.A3 h.n3 h.c3 B d.runs w6 ((HR3.out.on HBW.out HB5.out).on (Nat.le_trans HBW.out HB5.out.size) HB6.out) (Nat.le_trans (Nat.le_trans HBW.out HB5.out.size) HB6.out.size) hs.n3 HWY.out).mono ?_
   rintro e w7 ⟨A7, d7, rh, rfl, s7, b7⟩
   have HS7 := Lib.hid s7
   have HB7 := Lib.hid b7
   replace c1 := cell_on b7 c1
   replace c2 := cell_on b7 c2
   replace c3 := cell_on b7 c3
   have Y7 := ((HY.out.on HB5.out).on HB6.out).on HB7.out
   have f1 := Y7.frozen 1
   have f2 := Y7.frozen 2
   have f3 := Y7.frozen 3
   clear s7 b7
   go_wp2_with fail
   refine hK.out _ _ ?_ (fun hNew => ?_)
   ·trivial
   clear hK K hHeld
   have hHeld := hNew
   clear hNew
   try simp only [Act.put, ly]
   refine wpAnyH_ready (rs := [12]) (by kernel_rfl) (by simp) ?_
   refine AllReadyH.cons rfl (fun K hK => ?_) AllReadyH.nil
   go_simp
   refine hK.out _ _ ?_ (fun hNew => ?_)
   ·trivial
   clear hK K hHeld
   have hHeld := hNew
   clear hNew
   try simp only [Act.put, ly]
   refine tk 13 rfl ?_ ?_ ?_
   rotate_left
   ·intro w _; go_simp; try with_reducible rfl
   try simp only [Act.put, ly]
   refine wpAnyH_ready (rs := [14]) (by kernel_rfl) (by simp) ?_
   refine AllReadyH.cons rfl (fun K hK => ?_) AllReadyH.nil
   have Y8 := Y7.set_ 1 (.slice A5 h.n1 d5)
   have c2b := Y8.cellAt 2 (by simp)
   have f2b := Y8.frozen 2
   go_simp
   refine hK.out _ _ ?_ (fun hNew => ?_)
   ·trivial
   clear hK K hHeld
   have hHeld := hNew
   clear hNew
   try simp only [Act.put, ly]
   refine tk 15 rfl ?_ ?_ ?_
   rotate_left
   ·intro w _; go_simp; try with_reducible rfl
   try simp only [Act.put, ly]
   refine wpAnyH_ready (rs := [16]) (by kernel_rfl) (by simp) ?_
   refine AllReadyH.cons rfl (fun K hK => ?_) AllReadyH.nil
   have Y9 := Y8.set_ 2 (.slice A6 h.n2 d6)
   have c3b := Y9.cellAt 3 (by simp)
   have f3b := Y9.frozen 3
   go_simp
   refine hK.out _ _ ?_ (fun hNew => ?_)
   ·trivial
   clear hK K hHeld
   have hHeld := hNew
   clear hNew
   try simp only [Act.put, ly]
   refine wpAnyH_done (by kernel_rfl) ?_ _
   clear hHeld c1 c2 c3 f1 f2 f3
   have Y3 := Y9.set_ 3 (.slice A7 h.n3 d7)
   clear Y7 Y8 Y9
   have hO : Only w.heap.size (w.heap.size + 1) w7 (((w7.setCell ⟨w.heap.size, 1, none⟩ (.slice A5 h.n1 d5)).setCell ⟨w.heap.size, 2, none⟩ (.slice A6 h.n2 d6)).setCell ⟨w.heap.size, 3, none⟩ (.slice A7 h.n3 d7)) := (((Only.refl w.heap.size (w.heap.size + 1) w7).setCell (p := ⟨w.heap.size, 1, none⟩) (Nat.le_refl _) (Nat.lt_succ_self _) _).setCell (p := ⟨w.heap.size, 2, none⟩) (Nat.le_refl _) (Nat.lt_succ_self _) _).setCell (p := ⟨w.heap.size, 3, none⟩) (Nat.le_refl _) (Nat.lt_succ_self _) _
   obtain ⟨X, hX⟩ : ∃ y, ((w7.setCell ⟨w.heap.size, 1, none⟩ (.slice A5 h.n1 d5)).setCell ⟨w.heap.size, 2, none⟩ (.slice A6 h.n2 d6)).setCell ⟨w.heap.size, 3, none⟩ (.slice A7 h.n3 d7) = y := ⟨_, rfl⟩
   rw [hX] at Y3 hO ⊢
   clear hX
   have YF : Blk X w.heap.size 32 #[.int .i64 d.net.sta, .slice A5 h.n1 d5, .slice A6 h.n2 d6, .slice A7 h.n3 d7, .string d.log] := by simpa using Y3
   have YZ := (((HY2.out.on HB5.out).on HB6.out).on HB7.out).keepOnly hO (.inr (Nat.le_refl _))
   have HYZ := Lib.hid YZ
   have HOX := Lib.hid hO
   have x0 := YF.cellAt 0 (by simp)
   have x1 := YF.cellAt 1 (by simp)
   have x2 := YF.cellAt 2 (by simp)
   have x3 := YF.cellAt 3 (by simp)
   have x4 := YF.cellAt 4 (by simp)
   have z0 := YZ.cellAt 0 (by simp)
   have z1 := YZ.cellAt 1 (by simp)
   have z2 := YZ.cellAt 2 (by simp)
   have z3 := YZ.cellAt 3 (by simp)
   have z4 := YZ.cellAt 4 (by simp)
   simp only [List.getElem_toArray, List.getElem_cons_zero, List.getElem_cons_succ] at x0 x1 x2 x3 x4 z0 z1 z2 z3 z4
   obtain ⟨g0, g1, g2, g3, g4⟩ := frozen5 YZ
   have yl := YZ.lt
   clear Y3 hO YF YZ
   go_wp2
   obtain ⟨q1, q2, q3⟩ := store5 HYZ.out (.int .i64 d.net.sta) (.slice A5 h.n1 d5) (.slice A6 h.n2 d6) (.slice A7 h.n3 d7) (.string d.log)
   obtain ⟨r0, r1, r2, r3, r4⟩ := cells5 q1
   obtain ⟨V, hV⟩ : ∃ y, (((((X.setCell ⟨w.heap.size + 1, 0, none⟩ (.int .i64 d.net.sta)).setCell ⟨w.heap.size + 1, 1, none⟩ (.slice A5 h.n1 d5)).setCell ⟨w.heap.size + 1, 2, none⟩ (.slice A6 h.n2 d6)).setCell ⟨w.heap.size + 1, 3, none⟩ (.slice A7 h.n3 d7)).setCell ⟨w.heap.size + 1, 4, none⟩ (.string d.log)) = y := ⟨_, rfl⟩
   rw [hV] at q3 r0 r1 r2 r3 r4 ⊢
   have hd := copyDone HB.out HZ.out HB5.out HB6.out HB7.out HOX.out q3 HS5.out HS6.out HS7.out
   exact bodyPost_ret (v := .agg #[.int .i64 d.net.sta, .slice A5 h.n1 d5, .slice A6 h.n2 d6, .slice A7 h.n3 d7, .string d.log]) (by simp [results, Tryz.results33, go_sem, r0, r1, r2, r3, r4]) rfl ⟨⟨A5, h.n1, d5, A6, h.n2, d6, A7, h.n3, d7⟩, rh, rfl, hd.1, hd.2⟩
  exact AllReadyH.nil
 exact AllReadyH.nil
end Go.Proofs.YtjalgpioklcbfaaGreatDoor
