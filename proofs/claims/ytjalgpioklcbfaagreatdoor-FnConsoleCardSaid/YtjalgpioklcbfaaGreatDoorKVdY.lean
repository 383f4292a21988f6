/- The desk tested, both sides. -/
import Derived.Test.YtjalgpioklcbfaaGreatDoorMgConsoleAH
import Derived.Test.YtjalgpioklcbfaaGreatDoorMgConsoleAA
import Derived.Test.YtjalgpioklcbfaaGreatDoorMgConsoleAE
import Derived.Test.YtjalgpioklcbfaaGreatDoorMgConsoleAF
import Derived.Test.YtjalgpioklcbfaaGreatDoorMgConsoleAD
import Derived.Test.YtjalgpioklcbfaaGreatDoorMgConsoleAI
set_option linter.unusedVariables false
set_option linter.unusedSimpArgs false
namespace Go.Proofs.YtjalgpioklcbfaaGreatDoor
open Go.RowKit Go.Lib

def okDk (d : Dk) : Bool := okNt d.net && (okRuns d.times d.runs && codeF d.log == 0)

set_option maxHeartbeats 1000000 in
theorem isLog_any (s : ByteArray) (m : Int) (w : World) (hs : s.size ≤ 1048576) (hm : w.cell? ⟨1, 0, none⟩ = some (.int .i64 m)) (ht : TabP w) (hv : SynP w) :
    Calls Tryz.prog 72 #[.string s] w fun e w' => e = .returned (.bool (codeF s == 0)) ∧ Below w.heap.size w w' := by
  have HC := Lib.hid (logCode_any s m w hs hm ht hv)
  clear ht hv hm
  go_enter Tryz.func72, Tryz.ntmps72
  go_wp2_with fail
  refine HC.out.mono ?_
  rintro e w1 ⟨A, n, d, rfl, hsl, b1⟩
  have HB := Lib.hid b1
  clear hsl b1
  go_wp2
  go_ret
  exact ⟨rfl, HB.out.alloc HB.out.size _⟩

set_option maxHeartbeats 2000000 in
theorem implValidDesk_any (h : DkH) (d : Dk) (m : Int) (B : Nat) (w : World) (hr : DkR w B h d) (hs : DkS h d) (hB : B ≤ w.heap.size) (hm : w.cell? ⟨1, 0, none⟩ = some (.int .i64 m)) (ht : TabP w) (hv : SynP w) :
    Calls Tryz.prog 30 #[.agg #[.int .i64 d.net.sta, .slice h.A1 h.n1 h.c1, .slice h.A2 h.n2 h.c2, .slice h.A3 h.n3 h.c3, .string d.log]] w fun e w' => e = .returned (.bool (okDk d)) ∧ Below w.heap.size w w' := by
  obtain ⟨W, hW, y0, hb⟩ : ∃ W, W = w.alloc (.cells #[.int .i64 d.net.sta, .slice h.A1 h.n1 h.c1, .slice h.A2 h.n2 h.c2, .slice h.A3 h.n3 h.c3, .string d.log] 32) ∧ Blk W w.heap.size 32 #[.int .i64 d.net.sta, .slice h.A1 h.n1 h.c1, .slice h.A2 h.n2 h.c2, .slice h.A3 h.n3 h.c3, .string d.log] ∧ Below w.heap.size w W := ⟨_, rfl, Blk.new _ _ _, (Below.refl _ _).alloc (Nat.le_refl _) _⟩
  have HW := Lib.hid hW
  have HB := Lib.hid hb
  have HY := Lib.hid y0
  have HR := Lib.hid hr
  have HS := Lib.hid hs
  have HM := Lib.hid hm
  have HT := Lib.hid ht
  have HV := Lib.hid hv
  clear hW hb y0 hr hs hm ht hv
  go_enter Tryz.func30, Tryz.ntmps30
  go_wp2_with fail
  rw [← HW.out]
  refine (implValidNet_any h.A1 h.n1 h.c1 B d.net W (HR.out.tubes.on hB HB.out) (Nat.le_trans hB HB.out.size) HS.out.n1).mono ?_
  rintro e w1 ⟨rfl, b1⟩
  have HB1 := Lib.hid (bnext HB.out b1 (Nat.le_refl _))
  have HY1 := Lib.hid (HY.out.on b1)
  have a2 := HY1.out.cellAt 2 (by simp)
  have a3 := HY1.out.cellAt 3 (by simp)
  simp only [List.getElem_toArray, List.getElem_cons_zero, List.getElem_cons_succ] at a2 a3
  clear b1
  rcases e1 : okNt d.net with _ | _
  · have HO := Lib.hid (show okDk d = false by simp only [okDk, e1, Bool.false_and])
    go_wp2
    go_ret
    exact ⟨ret_bool HO.out.symm, HB1.out⟩
  have HO1 := Lib.hid (show okDk d = (okRuns d.times d.runs && codeF d.log == 0) by simp only [okDk, e1, Bool.true_and])
  go_wp2_with fail
  refine (implValidRuns_any h.A2 h.n2 h.c2 d.times h.A3 h.n3 h.c3 B d.runs w1 (HR.out.times.on hB HB1.out) (HR.out.runs.on hB HB1.out) (Nat.le_trans hB HB1.out.size) HS.out.n2 HS.out.n3 HS.out.runs).mono ?_
  rintro e w2 ⟨rfl, b2⟩
  have HB2 := Lib.hid (bnext HB1.out b2 (Nat.le_refl _))
  have a4 := (HY1.out.on b2).cellAt 4 (by simp)
  simp only [List.getElem_toArray, List.getElem_cons_zero, List.getElem_cons_succ] at a4
  clear b2 a2 a3
  rcases e2 : okRuns d.times d.runs with _ | _
  · have HO := Lib.hid (show okDk d = false by rw [HO1.out, e2, Bool.false_and])
    go_wp2
    go_ret
    exact ⟨ret_bool HO.out.symm, HB2.out⟩
  have HO2 := Lib.hid (show okDk d = (codeF d.log == 0) by rw [HO1.out, e2, Bool.true_and])
  go_wp2_with fail
  refine (isLog_any d.log m w2 HS.out.log (cell_on HB2.out HM.out) (tabUp HT.out HB2.out) (synUp HV.out HB2.out)).mono ?_
  rintro e w3 ⟨rfl, b3⟩
  have HB3 := Lib.hid (bnext HB2.out b3 (Nat.le_refl _))
  clear b3 a4
  go_wp2
  go_ret
  exact ⟨ret_bool HO2.out.symm, HB3.out⟩

set_option maxHeartbeats 2000000 in
theorem l28Ok_any (h : DkH) (d : Dk) (B g : Nat) (w : World) (hr : DkR w B h d) (hs : DkS h d) (hB : B ≤ w.heap.size) (y0 : Blk w g 32 #[.int .i64 d.net.sta, .slice h.A1 h.n1 h.c1, .slice h.A2 h.n2 h.c2, .slice h.A3 h.n3 h.c3, .string d.log]) :
    Calls Tryz.prog 37 #[.pointer (some ⟨g, 0, none⟩)] w fun e w' => e = .returned (.bool (okDk d)) ∧ Below w.heap.size w w' := by
  have HY := Lib.hid y0
  have HR := Lib.hid hr
  have HS := Lib.hid hs
  have a4 := y0.cellAt 4 (by simp)
  simp only [List.getElem_toArray, List.getElem_cons_zero, List.getElem_cons_succ] at a4
  clear y0 hr hs
  go_enter Tryz.func37, Tryz.ntmps37
  go_wp2_with fail
  refine (l27Code_any d.log w HS.out.log).mono ?_
  rintro e w1 ⟨g1, rfl, hrec, b1⟩
  have HB1 := Lib.hid b1
  have HY1 := Lib.hid (HY.out.on b1)
  have c0 := HY1.out.cellAt 0 (by simp)
  have c1 := HY1.out.cellAt 1 (by simp)
  have c2 := HY1.out.cellAt 2 (by simp)
  have c3 := HY1.out.cellAt 3 (by simp)
  simp only [List.getElem_toArray, List.getElem_cons_zero, List.getElem_cons_succ] at c0 c1 c2 c3
  clear b1 hrec a4
  go_upto_region 2 with fail
  rcases e1 : okNt d.net with _ | _
  · have HO := Lib.hid (show okDk d = false by simp only [okDk, e1, Bool.false_and])
    refine wp_region_held_drew (S := (fun W => Below w1.heap.size w1 W ∧ W.cell? ⟨g, 0, none⟩ = some (.int .i64 d.net.sta) ∧ W.cell? ⟨g, 1, none⟩ = some (.slice h.A1 h.n1 h.c1) ∧ W.cell? ⟨g, 2, none⟩ = some (.slice h.A2 h.n2 h.c2) ∧ W.cell? ⟨g, 3, none⟩ = some (.slice h.A3 h.n3 h.c3))) (by kernel_rfl) ?_ (fun hHeld => ?_)
    · exact ⟨(Below.refl _ _).drew, c0, c1, c2, c3⟩
    refine tk 0 rfl ?_ ?_ ?_
    rotate_left
    · intro w _; go_simp; try with_reducible rfl
    try simp only [Act.put, ly]
    refine tk 1 rfl ?_ ?_ ?_
    rotate_left
    · intro w _; go_simp; try with_reducible rfl
    try simp only [Act.put, ly]
    refine tk 2 rfl ?_ ?_ ?_
    rotate_left
    · intro w _; go_simp; try with_reducible rfl
    try simp only [Act.put, ly]
    refine wpAnyH_ready (rs := [3]) (by kernel_rfl) (by simp) ?_
    refine AllReadyH.cons rfl (fun K hK => ?_) AllReadyH.nil
    go_simp
    go_at_call 97
    refine (l02Ok_any h.A1 h.n1 h.c1 B g d.net _ (HR.out.tubes.on hB (bnext HB1.out hHeld.1 (Nat.le_refl _))) (Nat.le_trans hB (bnext HB1.out hHeld.1 (Nat.le_refl _)).size) HS.out.n1 hHeld.2.1 hHeld.2.2.1).mono ?_
    rw [e1]
    rintro e w2 ⟨rfl, b2⟩
    go_wp2_with fail
    refine hK.out _ _ ?_ (fun hNew => ?_)
    · exact ⟨bnext hHeld.1 b2 (Nat.le_refl _), cell_on b2 hHeld.2.1, cell_on b2 hHeld.2.2.1, cell_on b2 hHeld.2.2.2.1, cell_on b2 hHeld.2.2.2.2⟩
    clear hK K hHeld
    have hHeld := hNew
    clear hNew
    try simp only [Act.put, ly]
    refine tk 4 rfl ?_ ?_ ?_
    rotate_left
    · intro w _; go_simp; try with_reducible rfl
    try simp only [Act.put, ly]
    refine tu 5 rfl ?_
    try simp only [Act.put, ly]
    refine tu 6 rfl ?_
    try simp only [Act.put, ly]
    refine tu 7 rfl ?_
    try simp only [Act.put, ly]
    refine tu 8 rfl ?_
    try simp only [Act.put, ly]
    refine tu 9 rfl ?_
    try simp only [Act.put, ly]
    refine tu 10 rfl ?_
    try simp only [Act.put, ly]
    refine tu 11 rfl ?_
    try simp only [Act.put, ly]
    refine tu 12 rfl ?_
    try simp only [Act.put, ly]
    refine tu 13 rfl ?_
    try simp only [Act.put, ly]
    refine tk 14 rfl ?_ ?_ ?_
    rotate_left
    · intro w _; go_simp; try with_reducible rfl
    try simp only [Act.put, ly]
    refine tk 15 rfl ?_ ?_ ?_
    rotate_left
    · intro w _; go_simp; try with_reducible rfl
    try simp only [Act.put, ly]
    refine tu 16 rfl ?_
    try simp only [Act.put, ly]
    refine tu 17 rfl ?_
    try simp only [Act.put, ly]
    refine tk 18 rfl ?_ ?_ ?_
    rotate_left
    · intro w _; go_simp; try with_reducible rfl
    try simp only [Act.put, ly]
    refine tk 19 rfl ?_ ?_ ?_
    rotate_left
    · intro w _; go_simp; try with_reducible rfl
    try simp only [Act.put, ly]
    refine wpAnyH_done (by kernel_rfl) ?_ _
    have HF := Lib.hid (bnext HB1.out hHeld.1 (Nat.le_refl _))
    go_wp2
    go_ret
    exact ⟨ret_bool HO.out.symm, HF.out⟩
  have HO1 := Lib.hid (show okDk d = (okRuns d.times d.runs && codeF d.log == 0) by simp only [okDk, e1, Bool.true_and])
  rcases e2 : okRuns d.times d.runs with _ | _
  · have HO := Lib.hid (show okDk d = false by rw [HO1.out, e2, Bool.false_and])
    refine wp_region_held_drew (S := (fun W => Below w1.heap.size w1 W ∧ W.cell? ⟨g, 0, none⟩ = some (.int .i64 d.net.sta) ∧ W.cell? ⟨g, 1, none⟩ = some (.slice h.A1 h.n1 h.c1) ∧ W.cell? ⟨g, 2, none⟩ = some (.slice h.A2 h.n2 h.c2) ∧ W.cell? ⟨g, 3, none⟩ = some (.slice h.A3 h.n3 h.c3))) (by kernel_rfl) ?_ (fun hHeld => ?_)
    · exact ⟨(Below.refl _ _).drew, c0, c1, c2, c3⟩
    refine tk 0 rfl ?_ ?_ ?_
    rotate_left
    · intro w _; go_simp; try with_reducible rfl
    try simp only [Act.put, ly]
    refine tk 1 rfl ?_ ?_ ?_
    rotate_left
    · intro w _; go_simp; try with_reducible rfl
    try simp only [Act.put, ly]
    refine tk 2 rfl ?_ ?_ ?_
    rotate_left
    · intro w _; go_simp; try with_reducible rfl
    try simp only [Act.put, ly]
    refine wpAnyH_ready (rs := [3]) (by kernel_rfl) (by simp) ?_
    refine AllReadyH.cons rfl (fun K hK => ?_) AllReadyH.nil
    go_simp
    go_at_call 97
    refine (l02Ok_any h.A1 h.n1 h.c1 B g d.net _ (HR.out.tubes.on hB (bnext HB1.out hHeld.1 (Nat.le_refl _))) (Nat.le_trans hB (bnext HB1.out hHeld.1 (Nat.le_refl _)).size) HS.out.n1 hHeld.2.1 hHeld.2.2.1).mono ?_
    rw [e1]
    rintro e w2 ⟨rfl, b2⟩
    go_wp2_with fail
    refine hK.out _ _ ?_ (fun hNew => ?_)
    · exact ⟨bnext hHeld.1 b2 (Nat.le_refl _), cell_on b2 hHeld.2.1, cell_on b2 hHeld.2.2.1, cell_on b2 hHeld.2.2.2.1, cell_on b2 hHeld.2.2.2.2⟩
    clear hK K hHeld
    have hHeld := hNew
    clear hNew
    try simp only [Act.put, ly]
    refine tk 4 rfl ?_ ?_ ?_
    rotate_left
    · intro w _; go_simp; try with_reducible rfl
    try simp only [Act.put, ly]
    refine tk 5 rfl ?_ ?_ ?_
    rotate_left
    · intro w _; go_simp; try with_reducible rfl
    try simp only [Act.put, ly]
    refine tk 6 rfl ?_ ?_ ?_
    rotate_left
    · intro w _; go_simp; try with_reducible rfl
    try simp only [Act.put, ly]
    refine tk 7 rfl ?_ ?_ ?_
    rotate_left
    · intro w _; go_simp; try with_reducible rfl
    try simp only [Act.put, ly]
    refine tk 8 rfl ?_ ?_ ?_
    rotate_left
    · intro w hSw; (try dsimp only at hSw); (have e0 := hSw.2.2.2.1); (have e1 := hSw.2.2.2.2); go_simp; try with_reducible rfl
    try simp only [Act.put, ly]
    refine tk 9 rfl ?_ ?_ ?_
    rotate_left
    · intro w _; go_simp; try with_reducible rfl
    try simp only [Act.put, ly]
    refine tk 10 rfl ?_ ?_ ?_
    rotate_left
    · intro w _; go_simp; try with_reducible rfl
    try simp only [Act.put, ly]
    refine tk 11 rfl ?_ ?_ ?_
    rotate_left
    · intro w _; go_simp; try with_reducible rfl
    try simp only [Act.put, ly]
    refine tk 12 rfl ?_ ?_ ?_
    rotate_left
    · intro w hSw; (try dsimp only at hSw); (have e0 := hSw.2.2.2.1); (have e1 := hSw.2.2.2.2); go_simp; try with_reducible rfl
    try simp only [Act.put, ly]
    refine wpAnyH_ready (rs := [13]) (by kernel_rfl) (by simp) ?_
    refine AllReadyH.cons rfl (fun K hK => ?_) AllReadyH.nil
    go_simp
    go_at_call 98
    refine (l06Ok_any h.A2 h.n2 h.c2 B d.times h.A3 h.n3 h.c3 d.runs _ (HR.out.times.on hB (bnext HB1.out hHeld.1 (Nat.le_refl _))) (HR.out.runs.on hB (bnext HB1.out hHeld.1 (Nat.le_refl _))) HS.out.n2 HS.out.n3 HS.out.runs).mono ?_
    rw [e2]
    rintro e w3 ⟨rfl, rfl⟩
    go_wp2_with fail
    refine hK.out _ _ ?_ (fun hNew => ?_)
    · exact hHeld
    clear hK K hHeld
    have hHeld := hNew
    clear hNew
    try simp only [Act.put, ly]
    refine tk 14 rfl ?_ ?_ ?_
    rotate_left
    · intro w _; go_simp; try with_reducible rfl
    try simp only [Act.put, ly]
    refine tk 15 rfl ?_ ?_ ?_
    rotate_left
    · intro w _; go_simp; try with_reducible rfl
    try simp only [Act.put, ly]
    refine tu 16 rfl ?_
    try simp only [Act.put, ly]
    refine tu 17 rfl ?_
    try simp only [Act.put, ly]
    refine tk 18 rfl ?_ ?_ ?_
    rotate_left
    · intro w _; go_simp; try with_reducible rfl
    try simp only [Act.put, ly]
    refine tk 19 rfl ?_ ?_ ?_
    rotate_left
    · intro w _; go_simp; try with_reducible rfl
    try simp only [Act.put, ly]
    refine wpAnyH_done (by kernel_rfl) ?_ _
    have HF := Lib.hid (bnext HB1.out hHeld.1 (Nat.le_refl _))
    go_wp2
    go_ret
    exact ⟨ret_bool HO.out.symm, HF.out⟩
  · have HO := Lib.hid (show okDk d = (codeF d.log == 0) by rw [HO1.out, e2, Bool.true_and])
    refine wp_region_held_drew (S := (fun W => Below w1.heap.size w1 W ∧ W.cell? ⟨g, 0, none⟩ = some (.int .i64 d.net.sta) ∧ W.cell? ⟨g, 1, none⟩ = some (.slice h.A1 h.n1 h.c1) ∧ W.cell? ⟨g, 2, none⟩ = some (.slice h.A2 h.n2 h.c2) ∧ W.cell? ⟨g, 3, none⟩ = some (.slice h.A3 h.n3 h.c3))) (by kernel_rfl) ?_ (fun hHeld => ?_)
    · exact ⟨(Below.refl _ _).drew, c0, c1, c2, c3⟩
    refine tk 0 rfl ?_ ?_ ?_
    rotate_left
    · intro w _; go_simp; try with_reducible rfl
    try simp only [Act.put, ly]
    refine tk 1 rfl ?_ ?_ ?_
    rotate_left
    · intro w _; go_simp; try with_reducible rfl
    try simp only [Act.put, ly]
    refine tk 2 rfl ?_ ?_ ?_
    rotate_left
    · intro w _; go_simp; try with_reducible rfl
    try simp only [Act.put, ly]
    refine wpAnyH_ready (rs := [3]) (by kernel_rfl) (by simp) ?_
    refine AllReadyH.cons rfl (fun K hK => ?_) AllReadyH.nil
    go_simp
    go_at_call 97
    refine (l02Ok_any h.A1 h.n1 h.c1 B g d.net _ (HR.out.tubes.on hB (bnext HB1.out hHeld.1 (Nat.le_refl _))) (Nat.le_trans hB (bnext HB1.out hHeld.1 (Nat.le_refl _)).size) HS.out.n1 hHeld.2.1 hHeld.2.2.1).mono ?_
    rw [e1]
    rintro e w2 ⟨rfl, b2⟩
    go_wp2_with fail
    refine hK.out _ _ ?_ (fun hNew => ?_)
    · exact ⟨bnext hHeld.1 b2 (Nat.le_refl _), cell_on b2 hHeld.2.1, cell_on b2 hHeld.2.2.1, cell_on b2 hHeld.2.2.2.1, cell_on b2 hHeld.2.2.2.2⟩
    clear hK K hHeld
    have hHeld := hNew
    clear hNew
    try simp only [Act.put, ly]
    refine tk 4 rfl ?_ ?_ ?_
    rotate_left
    · intro w _; go_simp; try with_reducible rfl
    try simp only [Act.put, ly]
    refine tk 5 rfl ?_ ?_ ?_
    rotate_left
    · intro w _; go_simp; try with_reducible rfl
    try simp only [Act.put, ly]
    refine tk 6 rfl ?_ ?_ ?_
    rotate_left
    · intro w _; go_simp; try with_reducible rfl
    try simp only [Act.put, ly]
    refine tk 7 rfl ?_ ?_ ?_
    rotate_left
    · intro w _; go_simp; try with_reducible rfl
    try simp only [Act.put, ly]
    refine tk 8 rfl ?_ ?_ ?_
    rotate_left
    · intro w hSw; (try dsimp only at hSw); (have e0 := hSw.2.2.2.1); (have e1 := hSw.2.2.2.2); go_simp; try with_reducible rfl
    try simp only [Act.put, ly]
    refine tk 9 rfl ?_ ?_ ?_
    rotate_left
    · intro w _; go_simp; try with_reducible rfl
    try simp only [Act.put, ly]
    refine tk 10 rfl ?_ ?_ ?_
    rotate_left
    · intro w _; go_simp; try with_reducible rfl
    try simp only [Act.put, ly]
    refine tk 11 rfl ?_ ?_ ?_
    rotate_left
    · intro w _; go_simp; try with_reducible rfl
    try simp only [Act.put, ly]
    refine tk 12 rfl ?_ ?_ ?_
    rotate_left
    · intro w hSw; (try dsimp only at hSw); (have e0 := hSw.2.2.2.1); (have e1 := hSw.2.2.2.2); go_simp; try with_reducible rfl
    try simp only [Act.put, ly]
    refine wpAnyH_ready (rs := [13]) (by kernel_rfl) (by simp) ?_
    refine AllReadyH.cons rfl (fun K hK => ?_) AllReadyH.nil
    go_simp
    go_at_call 98
    refine (l06Ok_any h.A2 h.n2 h.c2 B d.times h.A3 h.n3 h.c3 d.runs _ (HR.out.times.on hB (bnext HB1.out hHeld.1 (Nat.le_refl _))) (HR.out.runs.on hB (bnext HB1.out hHeld.1 (Nat.le_refl _))) HS.out.n2 HS.out.n3 HS.out.runs).mono ?_
    rw [e2]
    rintro e w3 ⟨rfl, rfl⟩
    go_wp2_with fail
    refine hK.out _ _ ?_ (fun hNew => ?_)
    · exact hHeld
    clear hK K hHeld
    have hHeld := hNew
    clear hNew
    try simp only [Act.put, ly]
    refine tk 14 rfl ?_ ?_ ?_
    rotate_left
    · intro w _; go_simp; try with_reducible rfl
    try simp only [Act.put, ly]
    refine tk 15 rfl ?_ ?_ ?_
    rotate_left
    · intro w _; go_simp; try with_reducible rfl
    try simp only [Act.put, ly]
    refine tk 16 rfl ?_ ?_ ?_
    rotate_left
    · intro w _; go_simp; try with_reducible rfl
    try simp only [Act.put, ly]
    refine tk 17 rfl ?_ ?_ ?_
    rotate_left
    · intro w _; go_simp; try with_reducible rfl
    try simp only [Act.put, ly]
    refine tk 18 rfl ?_ ?_ ?_
    rotate_left
    · intro w _; go_simp; try with_reducible rfl
    try simp only [Act.put, ly]
    refine tk 19 rfl ?_ ?_ ?_
    rotate_left
    · intro w _; go_simp; try with_reducible rfl
    try simp only [Act.put, ly]
    refine wpAnyH_done (by kernel_rfl) ?_ _
    have HF := Lib.hid (bnext HB1.out hHeld.1 (Nat.le_refl _))
    go_wp2
    go_ret
    exact ⟨ret_bool HO.out.symm, HF.out⟩

set_option maxHeartbeats 2000000 in
theorem specValidDesk_any (h : DkH) (d : Dk) (B : Nat) (w : World) (hr : DkR w B h d) (hs : DkS h d) (hB : B ≤ w.heap.size) :
    Calls Tryz.prog 10 #[.agg #[.int .i64 d.net.sta, .slice h.A1 h.n1 h.c1, .slice h.A2 h.n2 h.c2, .slice h.A3 h.n3 h.c3, .string d.log]] w fun e w' => e = .returned (.bool (okDk d)) ∧ Below w.heap.size w w' := by
  obtain ⟨W, hW, y0, hb⟩ : ∃ W, W = w.alloc (.cells #[.int .i64 d.net.sta, .slice h.A1 h.n1 h.c1, .slice h.A2 h.n2 h.c2, .slice h.A3 h.n3 h.c3, .string d.log] 32) ∧ Blk W w.heap.size 32 #[.int .i64 d.net.sta, .slice h.A1 h.n1 h.c1, .slice h.A2 h.n2 h.c2, .slice h.A3 h.n3 h.c3, .string d.log] ∧ Below w.heap.size w W := ⟨_, rfl, Blk.new _ _ _, (Below.refl _ _).alloc (Nat.le_refl _) _⟩
  have HW := Lib.hid hW
  have HB := Lib.hid hb
  have HY := Lib.hid y0
  have HR := Lib.hid hr
  have HS := Lib.hid hs
  clear hW hb y0 hr hs
  go_enter Tryz.func10, Tryz.ntmps10
  go_wp2_with fail
  rw [← HW.out]
  refine (l28Ok_any h d B _ W (HR.out.on hB HB.out) HS.out (Nat.le_trans hB HB.out.size) HY.out).mono ?_
  rintro e w1 ⟨rfl, b1⟩
  have HB1 := Lib.hid (bnext HB.out b1 (Nat.le_refl _))
  clear b1
  go_wp2
  go_ret
  exact ⟨rfl, HB1.out⟩
end Go.Proofs.YtjalgpioklcbfaaGreatDoor
