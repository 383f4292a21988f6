/- DeskCommand, as the program does it. -/
import Derived.Test.YtjalgpioklcbfaaGreatDoorMgConsoleAT
import Derived.Test.YtjalgpioklcbfaaGreatDoorMgConsoleAA
set_option linter.unusedVariables false
set_option linter.unusedSimpArgs false
namespace Go.Proofs.YtjalgpioklcbfaaGreatDoor
open Go.RowKit Go.Lib

set_option maxHeartbeats 4000000 in
set_option maxRecDepth 100000 in
theorem deskCommand_any {h : DkH} {d : Dk} {line : ByteArray} {m : Int} {B : Nat} {w : World} (hr : DkR w B h d) (hs : DkS h d) (hB : B ≤ w.heap.size) (hp1 : PlainA h.A1) (hp2 : PlainA h.A2) (hl : line.size ≤ 1048575) (hm : w.cell? ⟨1, 0, none⟩ = some (.int .i64 m)) (ht : TabP w) (hv : SynP w) (hc : CnP w) (hlow : 4 < w.heap.size) :
    Calls Tryz.prog 9 #[.agg #[.int .i64 d.net.sta, .slice h.A1 h.n1 h.c1, .slice h.A2 h.n2 h.c2, .slice h.A3 h.n3 h.c3, .string d.log], .string line] w fun e w' => ∃ h' rh' LA ln lc, e = .returned (.tuple #[dkv h' (cmdF d line).dk, .slice LA ln lc, .int .i64 (cmdF d line).code]) ∧ CmdOut w w' h' (cmdF d line).dk rh' LA ln lc (cmdF d line).lines := by
  obtain ⟨W, hW, hz, k0, k1, hb⟩ := two_al w #[.int .i64 d.net.sta, .slice h.A1 h.n1 h.c1, .slice h.A2 h.n2 h.c2, .slice h.A3 h.n3 h.c3, .string d.log] #[.int .i64 0, .slice none 0 0, .slice none 0 0, .slice none 0 0, .string ⟨#[]⟩] 32 32
  have HW := Lib.hid hW
  have HB := Lib.hid hb
  have HZ := Lib.hid hz
  have HY := Lib.hid k0
  have HY2 := Lib.hid k1
  have HR := Lib.hid (hr.on hB hb)
  have HBW := Lib.hid (Nat.le_trans hB hb.size)
  have HS := Lib.hid hs
  have HP1 := Lib.hid hp1
  have HP2 := Lib.hid hp2
  have HM0 := Lib.hid hm
  have HT0 := Lib.hid ht
  have HV0 := Lib.hid hv
  have HC0 := Lib.hid hc
  have HM := Lib.hid (cell_on hb hm)
  have HT := Lib.hid (tabUp ht hb)
  have HV := Lib.hid (synUp hv hb)
  have HLOW := Lib.hid hlow
  have HHL := Lib.hid hl
  have HWN := Lib.hid (words_len line)
  have HZS := Lib.hid (fun x hx => splitS_sizes (c := 32) (s := line) x hx)
  clear hW hb hz k0 k1 hr hB hs hp1 hp2 hm ht hv hc hlow
  go_enter Tryz.func9, Tryz.ntmps9
  go_wp2_with fail
  rw [← HW.out]
  refine (strSplit_any line 32 m W (by omega) HM.out).mono ?_
  rintro e w1 ⟨WA, wn, wcap, rfl, s1, b1⟩
  have hwl : (splitS 32 line).length = wn := by have := s1.len; rw [strs_length] at this; omega
  have hw0 : 0 < wn := by rw [← hwl]; exact List.length_pos_iff.2 (splitS_ne 32 line)
  have hwm : wn ≤ 1048576 := by have := HWN.out; omega
  clear hl
  obtain ⟨ws, hws⟩ : ∃ z, splitS 32 line = z := ⟨_, rfl⟩
  rw [hws] at s1 hwl HZS
  have HWS := Lib.hid hws
  have HWL := Lib.hid hwl
  obtain ⟨s0, bw, ow, hs0, rfl, hbw, kw⟩ := str_at (s1.reads (Nat.le_refl _)) hw0
  rw [Nat.add_zero] at kw
  have hw00 : wordAt ws 0 = s0 := by unfold wordAt; rw [List.getD_eq_getElem?_getD, hs0]; rfl
  have HW0 := Lib.hid hw00
  have HS1 := Lib.hid s1
  have HB1 := Lib.hid (bnext HB.out b1 (Nat.le_refl _))
  have HBW1 := Lib.hid b1
  have y1 := HY.out.on b1
  obtain ⟨d0, d1, d2, d3, d4⟩ := cells5 y1
  have HY1 := Lib.hid y1
  clear hws hwl hs0 hw00 b1 y1
  have hwi : (0 : Int) < wn := by omega
  have hwi1 : (1 : Int) ≤ wn := by omega
  obtain ⟨TA, hTA⟩ : ∃ z, (if wcap = 1 then some (⟨bw, ow, none⟩ : Addr) else some ⟨bw, ow + 1, none⟩) = z := ⟨_, rfl⟩
  have HCAP := Lib.hid (Sl.cap_ge s1)
  have hSB := (show Reads w1 w1.heap.size 1 TA (wn - 1) (strs (ws.drop 1)) by
    have hl := HWL.out
    by_cases h1 : wcap = 1
    · have := HCAP.out
      rw [if_pos h1] at hTA
      refine ⟨by rw [strs_length, List.length_drop]; omega, fun h => by omega⟩
    · rw [if_neg h1] at hTA
      rw [← hTA]
      have hr := (s1.reads (Nat.le_refl _)).sub (i := 1) (m := wn - 1) (by omega)
      rwa [show ((strs ws).drop 1).take (wn - 1) = strs (ws.drop 1) by rw [List.take_of_length_le (by simp [strs]; omega)]; simp [strs]] at hr)
  have HTR := Lib.hid hSB
  clear hSB s1
  go_wp2_with fail
  refine (deskShape_any s0 w1).mono ?_
  rintro e w2 ⟨rfl, rfl⟩
  have hsz := shp_size s0
  obtain ⟨sh, hsh⟩ : ∃ z, shp s0 = z := ⟨_, rfl⟩
  rw [hsh] at hsz ⊢
  have HSH := Lib.hid hsh
  clear hsh
  have hshl : sh.size ≤ 9223372036854775807 := by omega
  obtain ⟨ob, hob⟩ : ∃ z, starB sh = z := ⟨_, rfl⟩
  have HOB := Lib.hid hob
  clear hob
  go_upto_region 3 with fail
  go_cut [9] (fun sv wx => sv = .bool ob ∧ wx = w2)
  case first => as_aux_lemma =>
    rcases hq1 : Lib.hasSuffix sh.data.toList [43] with _ | _
    · go_wp2_with fail
      refine (Tryz.strings_HasSuffix sh ⟨#[43]⟩ w2 hshl).mono ?_
      rintro e w3 ⟨rfl, rfl⟩
      rw [show (ByteArray.mk #[43]).data.toList = [43] from rfl, hq1]
      go_wp2_with fail
      refine (Tryz.strings_HasSuffix sh ⟨#[42]⟩ w3 hshl).mono ?_
      rintro e w4 ⟨rfl, rfl⟩
      rw [show (ByteArray.mk #[42]).data.toList = [42] from rfl]
      have hq2 : Lib.hasSuffix sh.data.toList [42] = ob := by have h := HOB.out; rw [starB_suf, hq1] at h; simpa using h
      rw [hq2]
      go_wp2_with fail
      go_meet
      exact ⟨rfl, rfl⟩
    · have hb1 : ob = true := by have h := HOB.out; rw [starB_suf, hq1] at h; simpa using h.symm
      subst hb1
      go_wp2_with fail
      refine (Tryz.strings_HasSuffix sh ⟨#[43]⟩ w2 hshl).mono ?_
      rintro e w3 ⟨rfl, rfl⟩
      rw [show (ByteArray.mk #[43]).data.toList = [43] from rfl, hq1]
      go_wp2_with fail
      go_meet
      exact ⟨rfl, rfl⟩
  obtain ⟨rfl, hwc⟩ := hcut
  have hwc := hwc.symm
  subst hwc
  go_wp2_with fail
  refine (implValidDesk_any h d m B w2 (HR.out.on HBW.out HBW1.out) HS.out (Nat.le_trans HBW.out HBW1.out.size) (cell_on HBW1.out HM.out) (tabUp HT.out HBW1.out) (synUp HV.out HBW1.out)).mono ?_
  rintro e w5 ⟨rfl, b5⟩
  have HBW5 := Lib.hid (bnext HBW1.out b5 (Nat.le_refl _))
  have HB5 := Lib.hid (bnext HB.out HBW5.out (Nat.le_refl _))
  replace kw := cell_on b5 kw
  have HTR5 := Lib.hid (HTR.out.on (Nat.le_refl _) b5)
  have HS5 := Lib.hid (HS1.out.on b5)
  have HZ5 := Lib.hid b5.size
  clear d0 d1 d2 d3 d4 b5
  rcases hok : okDk d with _ | _
  · have HX := Lib.hid (cmdF_bad (line := line) hok)
    clear hok
    have YR := HY2.out.on HBW5.out
    have HYR := Lib.hid YR
    obtain ⟨z0, z1, z2, z3, z4⟩ := cells5 YR
    obtain ⟨g0, g1, g2, g3, g4⟩ := frozen5 YR
    have yl := YR.lt
    clear YR
    go_wp2
    obtain ⟨q1, q2, q3⟩ := store5 HYR.out (.int .i64 0) (.slice none 0 0) (.slice none 0 0) (.slice none 0 0) (.string ⟨#[]⟩)
    obtain ⟨r0, r1, r2, r3, r4⟩ := cells5 q1
    obtain ⟨V, hV⟩ : ∃ y, (World.setCell (World.setCell (World.setCell (World.setCell (World.setCell w5 ⟨w.heap.size + 1, 0, none⟩ (.int .i64 0)) ⟨w.heap.size + 1, 1, none⟩ (.slice none 0 0)) ⟨w.heap.size + 1, 2, none⟩ (.slice none 0 0)) ⟨w.heap.size + 1, 3, none⟩ (.slice none 0 0)) ⟨w.heap.size + 1, 4, none⟩ (.string ⟨#[]⟩)) = y := ⟨_, rfl⟩
    rw [hV] at q3 r0 r1 r2 r3 r4 ⊢
    exact bodyPost_ret (v := .tuple #[.agg #[.int .i64 0, .slice none 0 0, .slice none 0 0, .slice none 0 0, .string ⟨#[]⟩], .slice none 0 0, .int .i64 1]) (by simp [results, Tryz.results9, go_sem, r0, r1, r2, r3, r4]) rfl ⟨⟨none, 0, 0, none, 0, 0, none, 0, 0⟩, [], none, 0, 0, by rw [HX.out]; rfl, by rw [HX.out]; exact cmdNil HB5.out q3⟩
  have HOK := Lib.hid hok
  clear hok
  rcases hhas : hasW deskW s0 with _ | _
  · have HX := Lib.hid (cmdF_word HOK.out HWS.out HW0.out hhas)
    go_upto_region 6 with fail
    refine wp_region_held_drew (S := (fun V => Below w5.heap.size w5 V)) (by kernel_rfl) ?_ (fun hHeld => ?_)
    · exact (Below.refl _ _).drew
    refine tk 1 rfl ?_ ?_ ?_
    rotate_left
    · intro w _; go_simp; try with_reducible rfl
    try simp only [Act.put, ly]
    refine tk 2 rfl ?_ ?_ ?_
    rotate_left
    · intro w _; go_simp; try with_reducible rfl
    try simp only [Act.put, ly]
    refine tk 3 rfl ?_ ?_ ?_
    rotate_left
    · intro w hSw; (try dsimp only at hSw); (have y0 := cell_on hSw kw); go_simp; try with_reducible rfl
    try simp only [Act.put, ly]
    refine wpAnyH_ready (rs := [0]) (by kernel_rfl) (by simp) ?_
    refine AllReadyH.cons rfl (fun K hK => ?_) AllReadyH.nil
    go_simp
    refine (deskWords_any _).mono ?_
    rintro e w6 ⟨DA, rfl, s6, b6⟩
    have HS6 := Lib.hid s6
    refine hK.out _ _ ?_ (fun hNew => ?_)
    · exact bnext hHeld b6 (Nat.le_refl _)
    clear hK K hHeld
    have hHeld := hNew
    clear hNew
    try simp only [Act.put, ly]
    refine wpAnyH_ready (rs := [4]) (by kernel_rfl) (by simp) ?_
    refine AllReadyH.cons rfl (fun K hK => ?_) AllReadyH.nil
    go_simp
    refine (slicesContains_any DA 11 11 w6.heap.size deskW s0 w6 (HS6.out.reads (Nat.le_refl _)) (by decide)).mono ?_
    rintro e w7 ⟨rfl, rfl⟩
    rw [hhas]
    refine hK.out _ _ ?_ (fun hNew => ?_)
    · exact hHeld
    clear hK K hHeld
    have hHeld := hNew
    clear hNew
    try simp only [Act.put, ly]
    refine tk 5 rfl ?_ ?_ ?_
    rotate_left
    · intro w _; go_simp; try with_reducible rfl
    try simp only [Act.put, ly]
    refine tk 6 rfl ?_ ?_ ?_
    rotate_left
    · intro w _; go_simp; try with_reducible rfl
    try simp only [Act.put, ly]
    refine wpAnyH_done (by kernel_rfl) ?_ _
    clear hhas
    have HB6 := Lib.hid (bnext HB5.out hHeld (Nat.le_refl _))
    have HBW6 := Lib.hid (bnext HBW5.out hHeld (Nat.le_refl _))
    clear hHeld
    have YR := HY2.out.on HBW6.out
    have HYR := Lib.hid YR
    obtain ⟨z0, z1, z2, z3, z4⟩ := cells5 YR
    obtain ⟨g0, g1, g2, g3, g4⟩ := frozen5 YR
    have yl := YR.lt
    clear YR
    go_wp2
    obtain ⟨q1, q2, q3⟩ := store5 HYR.out (.int .i64 0) (.slice none 0 0) (.slice none 0 0) (.slice none 0 0) (.string ⟨#[]⟩)
    obtain ⟨r0, r1, r2, r3, r4⟩ := cells5 q1
    obtain ⟨V, hV⟩ : ∃ y, (World.setCell (World.setCell (World.setCell (World.setCell (World.setCell w6 ⟨w.heap.size + 1, 0, none⟩ (.int .i64 0)) ⟨w.heap.size + 1, 1, none⟩ (.slice none 0 0)) ⟨w.heap.size + 1, 2, none⟩ (.slice none 0 0)) ⟨w.heap.size + 1, 3, none⟩ (.slice none 0 0)) ⟨w.heap.size + 1, 4, none⟩ (.string ⟨#[]⟩)) = y := ⟨_, rfl⟩
    rw [hV] at q3 r0 r1 r2 r3 r4 ⊢
    exact bodyPost_ret (v := .tuple #[.agg #[.int .i64 0, .slice none 0 0, .slice none 0 0, .slice none 0 0, .string ⟨#[]⟩], .slice none 0 0, .int .i64 7]) (by simp [results, Tryz.results9, go_sem, r0, r1, r2, r3, r4]) rfl ⟨⟨none, 0, 0, none, 0, 0, none, 0, 0⟩, [], none, 0, 0, by rw [HX.out]; rfl, by rw [HX.out]; exact cmdNil HB6.out q3⟩
  go_upto_region 6 with fail
  refine wp_region_held_drew (S := (fun V => Below w5.heap.size w5 V)) (by kernel_rfl) ?_ (fun hHeld => ?_)
  · exact (Below.refl _ _).drew
  refine tk 1 rfl ?_ ?_ ?_
  rotate_left
  · intro w _; go_simp; try with_reducible rfl
  try simp only [Act.put, ly]
  refine tk 2 rfl ?_ ?_ ?_
  rotate_left
  · intro w _; go_simp; try with_reducible rfl
  try simp only [Act.put, ly]
  refine tk 3 rfl ?_ ?_ ?_
  rotate_left
  · intro w hSw; (try dsimp only at hSw); (have y0 := cell_on hSw kw); go_simp; try with_reducible rfl
  try simp only [Act.put, ly]
  refine wpAnyH_ready (rs := [0]) (by kernel_rfl) (by simp) ?_
  refine AllReadyH.cons rfl (fun K hK => ?_) AllReadyH.nil
  go_simp
  refine (deskWords_any _).mono ?_
  rintro e w6 ⟨DA, rfl, s6, b6⟩
  have HS6 := Lib.hid s6
  refine hK.out _ _ ?_ (fun hNew => ?_)
  · exact bnext hHeld b6 (Nat.le_refl _)
  clear hK K hHeld
  have hHeld := hNew
  clear hNew
  try simp only [Act.put, ly]
  refine wpAnyH_ready (rs := [4]) (by kernel_rfl) (by simp) ?_
  refine AllReadyH.cons rfl (fun K hK => ?_) AllReadyH.nil
  go_simp
  refine (slicesContains_any DA 11 11 w6.heap.size deskW s0 w6 (HS6.out.reads (Nat.le_refl _)) (by decide)).mono ?_
  rintro e w7 ⟨rfl, rfl⟩
  rw [hhas]
  refine hK.out _ _ ?_ (fun hNew => ?_)
  · exact hHeld
  clear hK K hHeld
  have hHeld := hNew
  clear hNew
  try simp only [Act.put, ly]
  refine tk 5 rfl ?_ ?_ ?_
  rotate_left
  · intro w _; go_simp; try with_reducible rfl
  try simp only [Act.put, ly]
  refine tk 6 rfl ?_ ?_ ?_
  rotate_left
  · intro w _; go_simp; try with_reducible rfl
  try simp only [Act.put, ly]
  refine wpAnyH_done (by kernel_rfl) ?_ _
  have HHAS := Lib.hid hhas
  have HB6 := Lib.hid (bnext HB5.out hHeld (Nat.le_refl _))
  have HBW6 := Lib.hid (bnext HBW5.out hHeld (Nat.le_refl _))
  have HTR6 := Lib.hid (HTR5.out.on HZ5.out hHeld)
  have HSW6 := Lib.hid (HS5.out.on hHeld)
  have HZ6 := Lib.hid (Nat.le_trans HZ5.out hHeld.size)
  clear hhas hHeld kw
  have hws1 : IntKind.i64.wrap ((sh.size : Int) + 1) = (sh.size : Int) + 1 := by
    unfold IntKind.wrap; simp [IntKind.bits, IntKind.signed]; omega
  go_upto_region 8 with fail
  go_cut [44] (fun sv wx => sv = .bool (decide (wn < sh.size + 1 ∨ (ob = false ∧ sh.size + 1 < wn))) ∧ wx = w6)
  case first => as_aux_lemma =>
    by_cases hl1 : wn < sh.size + 1
    · have hl1i : (wn : Int) < (sh.size : Int) + 1 := by omega
      go_wp2
      go_meet
      exact ⟨congrArg Value.bool (decide_eq_true (.inl hl1)).symm, rfl⟩
    · have hl1i : ¬ ((wn : Int) < (sh.size : Int) + 1) := by omega
      have hl1d : decide ((wn : Int) < (sh.size : Int) + 1) = false := decide_eq_false hl1i
      cases ob
      · by_cases hl2 : sh.size + 1 < wn
        · have hl2i : (sh.size : Int) + 1 < (wn : Int) := by omega
          go_wp2
          go_meet
          exact ⟨congrArg Value.bool (decide_eq_true (.inr ⟨by simp, hl2⟩)).symm, rfl⟩
        · have hl2i : ¬ ((sh.size : Int) + 1 < (wn : Int)) := by omega
          go_wp2
          go_meet
          exact ⟨congrArg Value.bool (decide_eq_false (fun h => h.elim hl1 fun h => hl2 h.2)).symm, rfl⟩
      · go_wp2
        go_meet
        exact ⟨congrArg Value.bool (decide_eq_false (fun h => h.elim hl1 fun h => by cases h.1)).symm, rfl⟩
  obtain ⟨rfl, hwc⟩ := hcut
  have hwc := hwc.symm
  subst hwc
  by_cases hbad : wn < sh.size + 1 ∨ (ob = false ∧ sh.size + 1 < wn)
  · have HX := Lib.hid (cmdF_fit HOK.out HWS.out HW0.out HSH.out HHAS.out (by rw [HWL.out, HOB.out]; exact hbad))
    rw [decide_eq_true hbad]
    clear hbad
    have YR := HY2.out.on HBW6.out
    have HYR := Lib.hid YR
    obtain ⟨z0, z1, z2, z3, z4⟩ := cells5 YR
    obtain ⟨g0, g1, g2, g3, g4⟩ := frozen5 YR
    have yl := YR.lt
    clear YR
    go_wp2
    obtain ⟨q1, q2, q3⟩ := store5 HYR.out (.int .i64 0) (.slice none 0 0) (.slice none 0 0) (.slice none 0 0) (.string ⟨#[]⟩)
    obtain ⟨r0, r1, r2, r3, r4⟩ := cells5 q1
    obtain ⟨V, hV⟩ : ∃ y, (World.setCell (World.setCell (World.setCell (World.setCell (World.setCell w6 ⟨w.heap.size + 1, 0, none⟩ (.int .i64 0)) ⟨w.heap.size + 1, 1, none⟩ (.slice none 0 0)) ⟨w.heap.size + 1, 2, none⟩ (.slice none 0 0)) ⟨w.heap.size + 1, 3, none⟩ (.slice none 0 0)) ⟨w.heap.size + 1, 4, none⟩ (.string ⟨#[]⟩)) = y := ⟨_, rfl⟩
    rw [hV] at q3 r0 r1 r2 r3 r4 ⊢
    exact bodyPost_ret (v := .tuple #[.agg #[.int .i64 0, .slice none 0 0, .slice none 0 0, .slice none 0 0, .string ⟨#[]⟩], .slice none 0 0, .int .i64 7]) (by simp [results, Tryz.results9, go_sem, r0, r1, r2, r3, r4]) rfl ⟨⟨none, 0, 0, none, 0, 0, none, 0, 0⟩, [], none, 0, 0, by rw [HX.out]; rfl, by rw [HX.out]; exact cmdNil HB6.out q3⟩
  rw [decide_eq_false hbad]
  have HFIT := Lib.hid (show ¬ (ws.length < sh.size + 1 ∨ (starB sh = false ∧ sh.size + 1 < ws.length)) by rw [HWL.out, HOB.out]; exact hbad)
  have HSZ := Lib.hid (show 1 < wn → 0 < sh.size from fun hw => by
    cases hq : ob with
    | true => exact starB_pos (HOB.out.trans hq)
    | false => rcases Nat.eq_zero_or_pos sh.size with h0 | h0
               · exact absurd (.inr ⟨hq, by omega⟩) hbad
               · exact h0)
  clear hbad
  go_upto_region 10 with fail
  obtain ⟨u, hu⟩ : ∃ y, w6.alloc (.cells #[] 2) = y := ⟨_, rfl⟩
  have bu : Below w6.heap.size w6 u := by rw [← hu]; exact (Below.refl _ _).alloc (Nat.le_refl _) _
  have HBU6 := Lib.hid bu
  have su : Sl u w6.heap.size (w6.heap.size + 1) 2 1 (some ⟨w6.heap.size, 0, none⟩) 0 0 [] := by rw [← hu]; exact Sl.made _ _ _
  have zu : u.heap.size = w6.heap.size + 1 := by rw [← hu]; simp
  have HZU := Lib.hid zu
  have HSU := Lib.hid su
  have HBWU := Lib.hid (bnext HBW6.out bu (Nat.le_refl _))
  have YU := HY.out.on HBWU.out
  obtain ⟨d0, d1, d2, d3, d4⟩ := cells5 YU
  clear bu su zu YU
  go_wp2_with fail
  refine (copyDesk_any h d B u (HR.out.on HBW.out HBWU.out) HS.out (Nat.le_trans HBW.out HBWU.out.size) HP1.out HP2.out (okDk_ways HOK.out)).mono ?_
  rintro e w7 ⟨h7, rh7, rfl, o7, b7⟩
  simp only [dkv]
  clear hu d0 d1 d2 d3 d4
  go_wp2_with fail
  obtain ⟨u2, hu2⟩ : ∃ y, w7.alloc (.cells #[.int .i64 d.net.sta, .slice h7.A1 h7.n1 h7.c1, .slice h7.A2 h7.n2 h7.c2, .slice h7.A3 h7.n3 h7.c3, .string d.log] 32) = y := ⟨_, rfl⟩
  have Y2 : Blk u2 w7.heap.size 32 #[.int .i64 d.net.sta, .slice h7.A1 h7.n1 h7.c1, .slice h7.A2 h7.n2 h7.c2, .slice h7.A3 h7.n3 h7.c3, .string d.log] := by rw [← hu2]; exact Blk.new _ _ _
  have B2 : Below w7.heap.size w7 u2 := by rw [← hu2]; exact (Below.refl _ _).alloc (Nat.le_refl _) _
  rw [hu2]
  have HSN := (HSU.out.on b7).on B2
  have HACC := Lib.hid (Acc.start HSN (fun a ha => by injection ha with ha; subst ha; rfl) u2.heap.size)
  have HY2B := Lib.hid Y2
  have HO7 := Lib.hid (o7.on B2)
  have HB62 := Lib.hid (bnext (bnext HBU6.out b7 (Nat.le_refl _)) B2 (Nat.le_refl _))
  have HBX := Lib.hid (bnext HBW6.out HB62.out (Nat.le_refl _))
  have HTR2 := Lib.hid (HTR6.out.on HZ6.out HB62.out)
  have HSW2 := Lib.hid (HSW6.out.on HB62.out)
  have HG7 := Lib.hid (show w6.heap.size + 1 ≤ w7.heap.size by have := b7.size; have := HZU.out; omega)
  have HG2 := Lib.hid (show u2.heap.size = w7.heap.size + 1 by rw [← hu2]; simp)
  have HUL := Lib.hid (show w.heap.size + 1 + 1 ≤ w6.heap.size by have := HZ.out; have := HBW6.out.size; omega)
  have HWU := Lib.hid (show W.heap.size ≤ w6.heap.size from HBW6.out.size)
  have HZ62 := Lib.hid HB62.out.size
  clear Y2 B2 o7 b7 hu2 HSN hTA
  go_loopw [10, 70] (fun o i wr => ∃ (k nn : Nat) (A' : Option Addr) (d' : Nat) (acc : List Int), k ≤ wn - 1 ∧ nn ≤ k ∧ i = .int .i64 (k : Int) ∧ o = .slice A' nn d' ∧ Acc w6.heap.size u2.heap.size 2 1 u2 wr A' nn d' (ints acc) ∧ numsF sh (ws.drop 1) 0 [] = numsF sh ((ws.drop 1).drop k) k acc) (fun _ i _ => wn - (RowKit.intOf i).toNat)
  case atStart => exact ⟨0, 0, _, _, [], Nat.zero_le _, Nat.le_refl _, rfl, rfl, HACC.out, rfl⟩
  case round =>
    obtain ⟨k, nn, A', d', acc, hk, hnk, rfl, rfl, hacc, hnum⟩ := hrel
    have HA := Lib.hid hacc
    have HN := Lib.hid hnum
    have HBR := Lib.hid (HBX.out.trans (hacc.below (B := W.heap.size) HWU.out (Nat.le_trans HWU.out HZ62.out)))
    have HB0 := Lib.hid (bnext HB.out HBR.out (Nat.le_refl _))
    clear hacc hnum
    have hki : (0 : Int) ≤ k := by omega
    by_cases hlt : k < wn - 1
    · obtain ⟨x, bx, ox, hx, rfl, hbx, q0⟩ := str_at (HA.out.reads HTR2.out (Nat.le_trans HZ6.out HZ62.out) HZ6.out) hlt
      have hxs : x.size ≤ 1048576 := Nat.le_trans (HZS.out x (List.mem_of_mem_drop (List.mem_of_getElem? hx))) (by have := HHL.out; omega)
      have hsp := HSZ.out (by omega)
      have HDR := Lib.hid (show (ws.drop 1).drop k = x :: (ws.drop 1).drop (k + 1) by
        have hlen := (List.getElem?_eq_some_iff.1 hx).1
        rw [List.drop_eq_getElem_cons hlen, (List.getElem?_eq_some_iff.1 hx).2])
      obtain ⟨q, hq⟩ : ∃ q, min k (sh.size - 1) = q := ⟨_, rfl⟩
      have hql : q < sh.size := by omega
      have HKB := Lib.hid (kindB_at hq hql)
      have hmn : min (k : Int) ((sh.size : Int) - 1) = (q : Int) := by omega
      have hwm1 : IntKind.i64.wrap ((sh.size : Int) - 1) = (sh.size : Int) - 1 := by
        unfold IntKind.wrap; simp [IntKind.bits, IntKind.signed]; omega
      have hqi : (0 : Int) ≤ q := by omega
      have hqs : (q : Int) < sh.size := by omega
      have hkw : (k : Int) < ((wn - 1 : Nat) : Int) := by omega
      clear hx hq hsp
      by_cases hk1 : sh[q] = 110
      · have HKD := Lib.hid (show kindB sh k = 110 ∨ kindB sh k = 42 from .inl (HKB.out.trans hk1))
        have hx1 : ((sh[q].toNat : Int) != 110) = false := by rw [hk1]; rfl
        clear hk1
        go_wp2_with fail
        refine (readDecimal_any x wr (by omega) (tabUpB HT0.out HLOW.out HB0.out) (synUpB HV0.out HLOW.out HB0.out)).mono ?_
        rintro e w8 ⟨rfl, b8⟩
        have HBR8 := Lib.hid (bnext HBR.out b8 (Nat.le_refl _))
        have HA8 := Lib.hid (HA.out.on b8 (Nat.le_refl _))
        clear b8 q0
        obtain ⟨v, hv⟩ : ∃ v, (readN x.data.toList).1 = v := ⟨_, rfl⟩
        rw [hv]
        rcases hrd : (readN x.data.toList).2 with _ | _
        · have HX := Lib.hid (cmdF_num (d := d) HOK.out HWS.out HW0.out HSH.out HHAS.out HFIT.out (by rw [HN.out, HDR.out, numsF, if_pos HKD.out, if_neg (by rw [hrd]; decide)]))
          clear hrd hv
          have YB := HA8.out.blk HY2B.out (by have := HG2.out; omega) (by have := HG7.out; omega)
          have HYB := Lib.hid YB
          have HRB := Lib.hid (HY2.out.on HBR8.out)
          obtain ⟨nm, hnm⟩ : ∃ z, cnm.getD 7 ⟨#[]⟩ = z := ⟨_, rfl⟩
          have hov : ¬ (9223372036854775807 < 6 + nm.size) := by have := cnm_size 7; rw [hnm] at this; omega
          have HNM := Lib.hid hnm
          have HEL := Lib.hid (show errL 7 = (⟨#[101, 114, 114, 111, 114, 32]⟩ : ByteArray) ++ nm by unfold errL; rw [hnm])
          clear hnm
          have hlo8 : w.heap.size + 1 + 1 ≤ u.heap.size := by have := HUL.out; have := HZU.out; omega
          have oww := HO7.out.off (S := fun b => b = w6.heap.size) ⟨HA8.out.os, HA8.out.tape, HA8.out.output, HA8.out.size, fun k hk hn => HA8.out.block k hk hn⟩ (fun b hb e => by have := (HO7.out.inD_lt hb).1; have := HZU.out; omega)
          have HOW8 := Lib.hid (oww.low.on (w' := w8.drew) (Below.refl _ _).drew)
          have HB8 := Lib.hid (bnext HB.out HBR8.out (Nat.le_refl _)).drew
          have hu8 : u.heap.size ≤ w8.drew.heap.size := by have := HBR8.out.size; have := HA8.out.size; have := HG2.out; have := HG7.out; have := HZU.out; show u.heap.size ≤ w8.heap.size; omega
          have hg8 : w.heap.size + 1 + 1 ≤ w7.heap.size := by have := HUL.out; have := HG7.out; omega
          clear oww YB
          go_upto_region 18 with fail
          refine wp_region_held_drew (S := (fun V => Blk V w7.heap.size 32 #[.int .i64 d.net.sta, .slice h7.A1 h7.n1 h7.c1, .slice h7.A2 h7.n2 h7.c2, .slice h7.A3 h7.n3 h7.c3, .string d.log])) (by kernel_rfl) ?_ (fun hHeld => ?_)
          · exact HYB.out.drew
          refine tk 0 rfl ?_ ?_ ?_
          rotate_left
          · intro w hSw; (try dsimp only at hSw); (have l0 := hSw.cellAt 0 (by simp)); (have l1 := hSw.cellAt 1 (by simp)); (have l2 := hSw.cellAt 2 (by simp)); (have l3 := hSw.cellAt 3 (by simp)); (have l4 := hSw.cellAt 4 (by simp)); (simp only [List.getElem_toArray, List.getElem_cons_zero, List.getElem_cons_succ] at l0 l1 l2 l3 l4); go_simp; try with_reducible rfl
          try simp only [Act.put, ly]
          refine wpAnyH_ready (rs := [1]) (by kernel_rfl) (by simp) ?_
          refine AllReadyH.cons rfl (fun K hK => ?_) AllReadyH.nil
          go_simp
          refine (codeName7 _ (HC0.out.upB HLOW.out HB8.out)).mono ?_
          rintro e w9 ⟨rfl, hw9⟩
          rw [HNM.out]
          have HW9 := Lib.hid hw9
          have HRB9 := Lib.hid (show Blk w9 (w.heap.size + 1) 32 #[.int .i64 0, .slice none 0 0, .slice none 0 0, .slice none 0 0, .string ⟨#[]⟩] by rw [HW9.out]; exact HRB.out.drew)
          have HOW9 := Lib.hid (show OwnD w9 u.heap.size w9.heap.size h7 d rh7 by rw [HW9.out]; exact HOW8.out)
          have HB9 := Lib.hid (show Below w.heap.size w w9 by rw [HW9.out]; exact HB8.out)
          have hu9 : u.heap.size ≤ w9.heap.size := by rw [HW9.out]; exact hu8
          clear hw9
          refine hK.out _ _ ?_ (fun hNew => ?_)
          · rw [HW9.out]
            exact hHeld
          clear hK K hHeld
          have hHeld := hNew
          clear hNew
          try simp only [Act.put, ly]
          refine tk 2 rfl ?_ ?_ ?_
          rotate_left
          · intro w _; go_simp; try with_reducible rfl
          try simp only [Act.put, ly]
          refine wpAnyH_ready (rs := [3, 4]) (by kernel_rfl) (by simp) ?_
          refine AllReadyH.cons rfl (fun K hK => ?_) ?_
          · skip
            go_simp
            refine hK.out _ _ ?_ (fun hNew => ?_)
            · exact hHeld.alloc _
            clear hK K hHeld
            have hHeld := hNew
            clear hNew
            try simp only [Act.put, ly]
            refine wpAnyH_ready (rs := [4]) (by kernel_rfl) (by simp) ?_
            refine AllReadyH.cons rfl (fun K hK => ?_) AllReadyH.nil
            have YR := HRB9.out.alloc (.cells #[.string ((⟨#[101, 114, 114, 111, 114, 32]⟩ : ByteArray) ++ nm)] 9)
            obtain ⟨z0, z1, z2, z3, z4⟩ := cells5 YR
            obtain ⟨g0, g1, g2, g3, g4⟩ := frozen5 YR
            have yl := YR.lt
            go_simp
            refine hK.out _ _ ?_ (fun hNew => ?_)
            · obtain ⟨q1, q2, q3⟩ := store5 (HRB9.out.alloc (.cells #[.string ((⟨#[101, 114, 114, 111, 114, 32]⟩ : ByteArray) ++ nm)] 9)) (.int .i64 d.net.sta) (.slice h7.A1 h7.n1 h7.c1) (.slice h7.A2 h7.n2 h7.c2) (.slice h7.A3 h7.n3 h7.c3) (.string d.log)
              exact Blk.apart (show Blk _ _ _ _ from hHeld) q3 (.inr hg8)
            clear hK K hHeld
            have hHeld := hNew
            clear hNew
            try simp only [Act.put, ly]
            refine tk 5 rfl ?_ ?_ ?_
            rotate_left
            · intro w _; go_simp; try with_reducible rfl
            try simp only [Act.put, ly]
            refine tk 6 rfl ?_ ?_ ?_
            rotate_left
            · intro w _; go_simp; try with_reducible rfl
            try simp only [Act.put, ly]
            refine wpAnyH_done (by kernel_rfl) ?_ _
            go_wp2
            obtain ⟨q1, q2, q3⟩ := store5 (HRB9.out.alloc (.cells #[.string ((⟨#[101, 114, 114, 111, 114, 32]⟩ : ByteArray) ++ nm)] 9)) (.int .i64 d.net.sta) (.slice h7.A1 h7.n1 h7.c1) (.slice h7.A2 h7.n2 h7.c2) (.slice h7.A3 h7.n3 h7.c3) (.string d.log)
            obtain ⟨r0, r1, r2, r3, r4⟩ := cells5 q1
            obtain ⟨V, hV⟩ : ∃ y, (World.setCell (World.setCell (World.setCell (World.setCell (World.setCell (w9.alloc (.cells #[.string ((⟨#[101, 114, 114, 111, 114, 32]⟩ : ByteArray) ++ nm)] 9)) ⟨w.heap.size + 1, 0, none⟩ (.int .i64 d.net.sta)) ⟨w.heap.size + 1, 1, none⟩ (.slice h7.A1 h7.n1 h7.c1)) ⟨w.heap.size + 1, 2, none⟩ (.slice h7.A2 h7.n2 h7.c2)) ⟨w.heap.size + 1, 3, none⟩ (.slice h7.A3 h7.n3 h7.c3)) ⟨w.heap.size + 1, 4, none⟩ (.string d.log)) = y := ⟨_, rfl⟩
            rw [hV] at q3 r0 r1 r2 r3 r4 ⊢
            exact bodyPost_ret (v := .tuple #[.agg #[.int .i64 d.net.sta, .slice h7.A1 h7.n1 h7.c1, .slice h7.A2 h7.n2 h7.c2, .slice h7.A3 h7.n3 h7.c3, .string d.log], .slice (some ⟨w9.heap.size, 0, none⟩) 1 1, .int .i64 0]) (by simp [results, Tryz.results9, go_sem, r0, r1, r2, r3, r4]) rfl ⟨h7, rh7, _, 1, 1, by rw [HX.out]; rfl, by rw [HX.out, HEL.out]; exact cmdDone1 HB9.out q3 hlo8 hu9 HOW9.out⟩
          refine AllReadyH.cons rfl (fun K hK => ?_) ?_
          · skip
            have YR := HRB9.out
            obtain ⟨z0, z1, z2, z3, z4⟩ := cells5 YR
            obtain ⟨g0, g1, g2, g3, g4⟩ := frozen5 YR
            have yl := YR.lt
            go_simp
            refine hK.out _ _ ?_ (fun hNew => ?_)
            · obtain ⟨q1, q2, q3⟩ := store5 (HRB9.out) (.int .i64 d.net.sta) (.slice h7.A1 h7.n1 h7.c1) (.slice h7.A2 h7.n2 h7.c2) (.slice h7.A3 h7.n3 h7.c3) (.string d.log)
              exact Blk.apart (show Blk _ _ _ _ from hHeld) q3 (.inr hg8)
            clear hK K hHeld
            have hHeld := hNew
            clear hNew
            try simp only [Act.put, ly]
            refine wpAnyH_ready (rs := [3]) (by kernel_rfl) (by simp) ?_
            refine AllReadyH.cons rfl (fun K hK => ?_) AllReadyH.nil
            go_simp
            refine hK.out _ _ ?_ (fun hNew => ?_)
            · exact hHeld.alloc _
            clear hK K hHeld
            have hHeld := hNew
            clear hNew
            try simp only [Act.put, ly]
            refine tk 5 rfl ?_ ?_ ?_
            rotate_left
            · intro w _; go_simp; try with_reducible rfl
            try simp only [Act.put, ly]
            refine tk 6 rfl ?_ ?_ ?_
            rotate_left
            · intro w _; go_simp; try with_reducible rfl
            try simp only [Act.put, ly]
            refine wpAnyH_done (by kernel_rfl) ?_ _
            go_wp2
            obtain ⟨q1, q2, q3⟩ := store5 HRB9.out (.int .i64 d.net.sta) (.slice h7.A1 h7.n1 h7.c1) (.slice h7.A2 h7.n2 h7.c2) (.slice h7.A3 h7.n3 h7.c3) (.string d.log)
            obtain ⟨V, hV⟩ : ∃ y, (World.setCell (World.setCell (World.setCell (World.setCell (World.setCell w9 ⟨w.heap.size + 1, 0, none⟩ (.int .i64 d.net.sta)) ⟨w.heap.size + 1, 1, none⟩ (.slice h7.A1 h7.n1 h7.c1)) ⟨w.heap.size + 1, 2, none⟩ (.slice h7.A2 h7.n2 h7.c2)) ⟨w.heap.size + 1, 3, none⟩ (.slice h7.A3 h7.n3 h7.c3)) ⟨w.heap.size + 1, 4, none⟩ (.string d.log)) = y := ⟨_, rfl⟩
            rw [hV] at q1 q2 q3 ⊢
            have qa := q1.alloc (.cells #[.string ((⟨#[101, 114, 114, 111, 114, 32]⟩ : ByteArray) ++ nm)] 9)
            obtain ⟨r0, r1, r2, r3, r4⟩ := cells5 qa
            exact bodyPost_ret (v := .tuple #[.agg #[.int .i64 d.net.sta, .slice h7.A1 h7.n1 h7.c1, .slice h7.A2 h7.n2 h7.c2, .slice h7.A3 h7.n3 h7.c3, .string d.log], .slice (some ⟨V.heap.size, 0, none⟩) 1 1, .int .i64 0]) (by simp [results, Tryz.results9, go_sem, r0, r1, r2, r3, r4, q2]) rfl ⟨h7, rh7, _, 1, 1, by rw [HX.out]; rfl, by rw [HX.out, HEL.out]; exact cmdDone2 HB9.out q3 hlo8 HOW9.out⟩
          exact AllReadyH.nil
        have HNX := Lib.hid (show numsF sh (ws.drop 1) 0 [] = numsF sh ((ws.drop 1).drop (k + 1)) (k + 1) (acc ++ [v]) by rw [HN.out, HDR.out, numsF, if_pos HKD.out, if_pos hrd, hv])
        clear hrd hv
        go_wp2_with (at_builtin; refine wpList_accAt rfl _ _ 29 rfl 2 _ 1 8 Tryz.underlying29 info_i64L rfl (by decide) (by decide) HA8.out (Nat.le_refl _) rfl _ rfl [.int .i64 v] rfl rfl (fun u hu => by simp at hu; subst hu; rfl) (by omega) ?_; intro A9 d9 w9 hacc9; have HA9 := Lib.hid hacc9; clear hacc9)
        go_roundw
        case rel => exact ⟨k + 1, nn + 1, A9, d9, acc ++ [v], by omega, by omega, by go_num, rfl, by rw [← ints_snocL]; exact HA9.out, HNX.out⟩
        case measure => simp [RowKit.intOf]; omega
      by_cases hk2 : sh[q] = 42
      · have HKD := Lib.hid (show kindB sh k = 110 ∨ kindB sh k = 42 from .inr (HKB.out.trans hk2))
        have hx1 : ((sh[q].toNat : Int) != 110) = true := by rw [hk2]; rfl
        have hx2 : ((sh[q].toNat : Int) != 42) = false := by rw [hk2]; rfl
        clear hk1 hk2
        go_wp2_with fail
        refine (readDecimal_any x wr (by omega) (tabUpB HT0.out HLOW.out HB0.out) (synUpB HV0.out HLOW.out HB0.out)).mono ?_
        rintro e w8 ⟨rfl, b8⟩
        have HBR8 := Lib.hid (bnext HBR.out b8 (Nat.le_refl _))
        have HA8 := Lib.hid (HA.out.on b8 (Nat.le_refl _))
        clear b8 q0
        obtain ⟨v, hv⟩ : ∃ v, (readN x.data.toList).1 = v := ⟨_, rfl⟩
        rw [hv]
        rcases hrd : (readN x.data.toList).2 with _ | _
        · have HX := Lib.hid (cmdF_num (d := d) HOK.out HWS.out HW0.out HSH.out HHAS.out HFIT.out (by rw [HN.out, HDR.out, numsF, if_pos HKD.out, if_neg (by rw [hrd]; decide)]))
          clear hrd hv
          have YB := HA8.out.blk HY2B.out (by have := HG2.out; omega) (by have := HG7.out; omega)
          have HYB := Lib.hid YB
          have HRB := Lib.hid (HY2.out.on HBR8.out)
          obtain ⟨nm, hnm⟩ : ∃ z, cnm.getD 7 ⟨#[]⟩ = z := ⟨_, rfl⟩
          have hov : ¬ (9223372036854775807 < 6 + nm.size) := by have := cnm_size 7; rw [hnm] at this; omega
          have HNM := Lib.hid hnm
          have HEL := Lib.hid (show errL 7 = (⟨#[101, 114, 114, 111, 114, 32]⟩ : ByteArray) ++ nm by unfold errL; rw [hnm])
          clear hnm
          have hlo8 : w.heap.size + 1 + 1 ≤ u.heap.size := by have := HUL.out; have := HZU.out; omega
          have oww := HO7.out.off (S := fun b => b = w6.heap.size) ⟨HA8.out.os, HA8.out.tape, HA8.out.output, HA8.out.size, fun k hk hn => HA8.out.block k hk hn⟩ (fun b hb e => by have := (HO7.out.inD_lt hb).1; have := HZU.out; omega)
          have HOW8 := Lib.hid (oww.low.on (w' := w8.drew) (Below.refl _ _).drew)
          have HB8 := Lib.hid (bnext HB.out HBR8.out (Nat.le_refl _)).drew
          have hu8 : u.heap.size ≤ w8.drew.heap.size := by have := HBR8.out.size; have := HA8.out.size; have := HG2.out; have := HG7.out; have := HZU.out; show u.heap.size ≤ w8.heap.size; omega
          have hg8 : w.heap.size + 1 + 1 ≤ w7.heap.size := by have := HUL.out; have := HG7.out; omega
          clear oww YB
          go_upto_region 18 with fail
          refine wp_region_held_drew (S := (fun V => Blk V w7.heap.size 32 #[.int .i64 d.net.sta, .slice h7.A1 h7.n1 h7.c1, .slice h7.A2 h7.n2 h7.c2, .slice h7.A3 h7.n3 h7.c3, .string d.log])) (by kernel_rfl) ?_ (fun hHeld => ?_)
          · exact HYB.out.drew
          refine tk 0 rfl ?_ ?_ ?_
          rotate_left
          · intro w hSw; (try dsimp only at hSw); (have l0 := hSw.cellAt 0 (by simp)); (have l1 := hSw.cellAt 1 (by simp)); (have l2 := hSw.cellAt 2 (by simp)); (have l3 := hSw.cellAt 3 (by simp)); (have l4 := hSw.cellAt 4 (by simp)); (simp only [List.getElem_toArray, List.getElem_cons_zero, List.getElem_cons_succ] at l0 l1 l2 l3 l4); go_simp; try with_reducible rfl
          try simp only [Act.put, ly]
          refine wpAnyH_ready (rs := [1]) (by kernel_rfl) (by simp) ?_
          refine AllReadyH.cons rfl (fun K hK => ?_) AllReadyH.nil
          go_simp
          refine (codeName7 _ (HC0.out.upB HLOW.out HB8.out)).mono ?_
          rintro e w9 ⟨rfl, hw9⟩
          rw [HNM.out]
          have HW9 := Lib.hid hw9
          have HRB9 := Lib.hid (show Blk w9 (w.heap.size + 1) 32 #[.int .i64 0, .slice none 0 0, .slice none 0 0, .slice none 0 0, .string ⟨#[]⟩] by rw [HW9.out]; exact HRB.out.drew)
          have HOW9 := Lib.hid (show OwnD w9 u.heap.size w9.heap.size h7 d rh7 by rw [HW9.out]; exact HOW8.out)
          have HB9 := Lib.hid (show Below w.heap.size w w9 by rw [HW9.out]; exact HB8.out)
          have hu9 : u.heap.size ≤ w9.heap.size := by rw [HW9.out]; exact hu8
          clear hw9
          refine hK.out _ _ ?_ (fun hNew => ?_)
          · rw [HW9.out]
            exact hHeld
          clear hK K hHeld
          have hHeld := hNew
          clear hNew
          try simp only [Act.put, ly]
          refine tk 2 rfl ?_ ?_ ?_
          rotate_left
          · intro w _; go_simp; try with_reducible rfl
          try simp only [Act.put, ly]
          refine wpAnyH_ready (rs := [3, 4]) (by kernel_rfl) (by simp) ?_
          refine AllReadyH.cons rfl (fun K hK => ?_) ?_
          · skip
            go_simp
            refine hK.out _ _ ?_ (fun hNew => ?_)
            · exact hHeld.alloc _
            clear hK K hHeld
            have hHeld := hNew
            clear hNew
            try simp only [Act.put, ly]
            refine wpAnyH_ready (rs := [4]) (by kernel_rfl) (by simp) ?_
            refine AllReadyH.cons rfl (fun K hK => ?_) AllReadyH.nil
            have YR := HRB9.out.alloc (.cells #[.string ((⟨#[101, 114, 114, 111, 114, 32]⟩ : ByteArray) ++ nm)] 9)
            obtain ⟨z0, z1, z2, z3, z4⟩ := cells5 YR
            obtain ⟨g0, g1, g2, g3, g4⟩ := frozen5 YR
            have yl := YR.lt
            go_simp
            refine hK.out _ _ ?_ (fun hNew => ?_)
            · obtain ⟨q1, q2, q3⟩ := store5 (HRB9.out.alloc (.cells #[.string ((⟨#[101, 114, 114, 111, 114, 32]⟩ : ByteArray) ++ nm)] 9)) (.int .i64 d.net.sta) (.slice h7.A1 h7.n1 h7.c1) (.slice h7.A2 h7.n2 h7.c2) (.slice h7.A3 h7.n3 h7.c3) (.string d.log)
              exact Blk.apart (show Blk _ _ _ _ from hHeld) q3 (.inr hg8)
            clear hK K hHeld
            have hHeld := hNew
            clear hNew
            try simp only [Act.put, ly]
            refine tk 5 rfl ?_ ?_ ?_
            rotate_left
            · intro w _; go_simp; try with_reducible rfl
            try simp only [Act.put, ly]
            refine tk 6 rfl ?_ ?_ ?_
            rotate_left
            · intro w _; go_simp; try with_reducible rfl
            try simp only [Act.put, ly]
            refine wpAnyH_done (by kernel_rfl) ?_ _
            go_wp2
            obtain ⟨q1, q2, q3⟩ := store5 (HRB9.out.alloc (.cells #[.string ((⟨#[101, 114, 114, 111, 114, 32]⟩ : ByteArray) ++ nm)] 9)) (.int .i64 d.net.sta) (.slice h7.A1 h7.n1 h7.c1) (.slice h7.A2 h7.n2 h7.c2) (.slice h7.A3 h7.n3 h7.c3) (.string d.log)
            obtain ⟨r0, r1, r2, r3, r4⟩ := cells5 q1
            obtain ⟨V, hV⟩ : ∃ y, (World.setCell (World.setCell (World.setCell (World.setCell (World.setCell (w9.alloc (.cells #[.string ((⟨#[101, 114, 114, 111, 114, 32]⟩ : ByteArray) ++ nm)] 9)) ⟨w.heap.size + 1, 0, none⟩ (.int .i64 d.net.sta)) ⟨w.heap.size + 1, 1, none⟩ (.slice h7.A1 h7.n1 h7.c1)) ⟨w.heap.size + 1, 2, none⟩ (.slice h7.A2 h7.n2 h7.c2)) ⟨w.heap.size + 1, 3, none⟩ (.slice h7.A3 h7.n3 h7.c3)) ⟨w.heap.size + 1, 4, none⟩ (.string d.log)) = y := ⟨_, rfl⟩
            rw [hV] at q3 r0 r1 r2 r3 r4 ⊢
            exact bodyPost_ret (v := .tuple #[.agg #[.int .i64 d.net.sta, .slice h7.A1 h7.n1 h7.c1, .slice h7.A2 h7.n2 h7.c2, .slice h7.A3 h7.n3 h7.c3, .string d.log], .slice (some ⟨w9.heap.size, 0, none⟩) 1 1, .int .i64 0]) (by simp [results, Tryz.results9, go_sem, r0, r1, r2, r3, r4]) rfl ⟨h7, rh7, _, 1, 1, by rw [HX.out]; rfl, by rw [HX.out, HEL.out]; exact cmdDone1 HB9.out q3 hlo8 hu9 HOW9.out⟩
          refine AllReadyH.cons rfl (fun K hK => ?_) ?_
          · skip
            have YR := HRB9.out
            obtain ⟨z0, z1, z2, z3, z4⟩ := cells5 YR
            obtain ⟨g0, g1, g2, g3, g4⟩ := frozen5 YR
            have yl := YR.lt
            go_simp
            refine hK.out _ _ ?_ (fun hNew => ?_)
            · obtain ⟨q1, q2, q3⟩ := store5 (HRB9.out) (.int .i64 d.net.sta) (.slice h7.A1 h7.n1 h7.c1) (.slice h7.A2 h7.n2 h7.c2) (.slice h7.A3 h7.n3 h7.c3) (.string d.log)
              exact Blk.apart (show Blk _ _ _ _ from hHeld) q3 (.inr hg8)
            clear hK K hHeld
            have hHeld := hNew
            clear hNew
            try simp only [Act.put, ly]
            refine wpAnyH_ready (rs := [3]) (by kernel_rfl) (by simp) ?_
            refine AllReadyH.cons rfl (fun K hK => ?_) AllReadyH.nil
            go_simp
            refine hK.out _ _ ?_ (fun hNew => ?_)
            · exact hHeld.alloc _
            clear hK K hHeld
            have hHeld := hNew
            clear hNew
            try simp only [Act.put, ly]
            refine tk 5 rfl ?_ ?_ ?_
            rotate_left
            · intro w _; go_simp; try with_reducible rfl
            try simp only [Act.put, ly]
            refine tk 6 rfl ?_ ?_ ?_
            rotate_left
            · intro w _; go_simp; try with_reducible rfl
            try simp only [Act.put, ly]
            refine wpAnyH_done (by kernel_rfl) ?_ _
            go_wp2
            obtain ⟨q1, q2, q3⟩ := store5 HRB9.out (.int .i64 d.net.sta) (.slice h7.A1 h7.n1 h7.c1) (.slice h7.A2 h7.n2 h7.c2) (.slice h7.A3 h7.n3 h7.c3) (.string d.log)
            obtain ⟨V, hV⟩ : ∃ y, (World.setCell (World.setCell (World.setCell (World.setCell (World.setCell w9 ⟨w.heap.size + 1, 0, none⟩ (.int .i64 d.net.sta)) ⟨w.heap.size + 1, 1, none⟩ (.slice h7.A1 h7.n1 h7.c1)) ⟨w.heap.size + 1, 2, none⟩ (.slice h7.A2 h7.n2 h7.c2)) ⟨w.heap.size + 1, 3, none⟩ (.slice h7.A3 h7.n3 h7.c3)) ⟨w.heap.size + 1, 4, none⟩ (.string d.log)) = y := ⟨_, rfl⟩
            rw [hV] at q1 q2 q3 ⊢
            have qa := q1.alloc (.cells #[.string ((⟨#[101, 114, 114, 111, 114, 32]⟩ : ByteArray) ++ nm)] 9)
            obtain ⟨r0, r1, r2, r3, r4⟩ := cells5 qa
            exact bodyPost_ret (v := .tuple #[.agg #[.int .i64 d.net.sta, .slice h7.A1 h7.n1 h7.c1, .slice h7.A2 h7.n2 h7.c2, .slice h7.A3 h7.n3 h7.c3, .string d.log], .slice (some ⟨V.heap.size, 0, none⟩) 1 1, .int .i64 0]) (by simp [results, Tryz.results9, go_sem, r0, r1, r2, r3, r4, q2]) rfl ⟨h7, rh7, _, 1, 1, by rw [HX.out]; rfl, by rw [HX.out, HEL.out]; exact cmdDone2 HB9.out q3 hlo8 HOW9.out⟩
          exact AllReadyH.nil
        have HNX := Lib.hid (show numsF sh (ws.drop 1) 0 [] = numsF sh ((ws.drop 1).drop (k + 1)) (k + 1) (acc ++ [v]) by rw [HN.out, HDR.out, numsF, if_pos HKD.out, if_pos hrd, hv])
        clear hrd hv
        go_wp2_with (at_builtin; refine wpList_accAt rfl _ _ 29 rfl 2 _ 1 8 Tryz.underlying29 info_i64L rfl (by decide) (by decide) HA8.out (Nat.le_refl _) rfl _ rfl [.int .i64 v] rfl rfl (fun u hu => by simp at hu; subst hu; rfl) (by omega) ?_; intro A9 d9 w9 hacc9; have HA9 := Lib.hid hacc9; clear hacc9)
        go_roundw
        case rel => exact ⟨k + 1, nn + 1, A9, d9, acc ++ [v], by omega, by omega, by go_num, rfl, by rw [← ints_snocL]; exact HA9.out, HNX.out⟩
        case measure => simp [RowKit.intOf]; omega
      have HKD := Lib.hid (show ¬ (kindB sh k = 110 ∨ kindB sh k = 42) by rw [HKB.out]; exact fun h => h.elim hk1 hk2)
      have hx1 : ((sh[q].toNat : Int) != 110) = true := by
        rw [bne_iff_ne]
        intro e
        exact hk1 (by rw [← UInt8.toNat_inj]; show _ = 110; omega)
      have hx2 : ((sh[q].toNat : Int) != 42) = true := by
        rw [bne_iff_ne]
        intro e
        exact hk2 (by rw [← UInt8.toNat_inj]; show _ = 42; omega)
      clear hk1 hk2
      go_wp2
      go_roundw
      case rel => exact ⟨k + 1, nn, A', d', acc, by omega, by omega, by go_num, rfl, HA.out, by rw [HN.out, HDR.out, numsF, if_neg HKD.out]⟩
      case measure => simp [RowKit.intOf]; omega
    · obtain rfl : k = wn - 1 := by omega
      have HNS := Lib.hid (show numsF sh (ws.drop 1) 0 [] = some acc by rw [HN.out, List.drop_drop, List.drop_eq_nil_of_le (by rw [HWL.out]; omega), numsF])
      have hkw : ¬ ((wn - 1 : Nat) : Int) < ((wn - 1 : Nat) : Int) := by omega
      go_wp2_with fail
      have hcapn := Sl.cap_ge (HA.out.sl (lo := 0) (Nat.zero_le _) (Nat.zero_le _))
      have hulo : w.heap.size + 1 + 1 ≤ u.heap.size := by have := HUL.out; have := HZU.out; omega
      have oww := HO7.out.off (S := fun b => b = w6.heap.size) ⟨HA.out.os, HA.out.tape, HA.out.output, HA.out.size, fun k hk hn => HA.out.block k hk hn⟩ (fun b hb e => by have := (HO7.out.inD_lt hb).1; have := HZU.out; omega)
      have XI : ExIn wr u.heap.size w7.heap.size h7 d rh7 (some ⟨bw, ow, none⟩) wn ws A' nn acc m :=
        { blk := HA.out.blk HY2B.out (by have := HG2.out; omega) (by have := HG7.out; omega)
          own := oww.low
          gne := fun b hb e => by have := (HO7.out.inD_lt hb).2; omega
          glo := by have := HG7.out; have := HZU.out; omega
          small := okDk_S HO7.out HOK.out
          ok := HOK.out
          wsr := (HA.out.reads (HSW2.out.reads (Nat.le_refl _)) (Nat.le_trans HZ6.out HZ62.out) HZ6.out).more (by have := HZ6.out; have := HZU.out; omega)
          nsr := (HA.out.sl (lo := 0) (Nat.zero_le _) (Nat.zero_le _)).reads (Nat.le_refl _)
          wl := by omega
          nl := by omega
          wsz := fun x hx => Nat.le_trans (HZS.out x hx) (by have := HHL.out; omega)
          nsb := (numsF_bd _ _ _ _ _ HNS.out (fun x hx => by cases hx)).1
          max := maxUpB HM0.out HLOW.out HB0.out
          tab := tabUpB HT0.out HLOW.out HB0.out
          syn := synUpB HV0.out HLOW.out HB0.out
          low := Nat.lt_of_lt_of_le HLOW.out (by omega) }
      refine (exec_any wcap d' XI hw0 HCAP.out hcapn (cmdOk_mk HWS.out HW0.out HSH.out HHAS.out HFIT.out HNS.out HHL.out)).mono ?_
      rintro e w9 ⟨LA, ln, lc, rfl, h9, rh9, xo⟩
      have hec := execF_cd d ws acc
      have HX1 := Lib.hid (fun hc => cmdF_err (d := d) HOK.out HWS.out HW0.out HSH.out HHAS.out HFIT.out HNS.out hc)
      have HX2 := Lib.hid (fun hc => cmdF_yes (d := d) HOK.out HWS.out HW0.out HSH.out HHAS.out HFIT.out HNS.out hc)
      obtain ⟨x, hx⟩ : ∃ z, execF d ws acc = z := ⟨_, rfl⟩
      rw [hx] at xo hec HX1 HX2 ⊢
      have XO := Lib.hid xo
      have HBW9 := Lib.hid (HBR.out.trans (xo.bel.mono (by have := HWU.out; have := HZU.out; omega)))
      have HB9 := Lib.hid (bnext HB.out HBW9.out (Nat.le_refl _))
      clear XI oww xo hx
      by_cases hc : x.code = 0
      · have HX := Lib.hid (HX2.out hc)
        have HCZ := Lib.hid hc
        have hcb : (x.code != 0) = false := by rw [hc]; rfl
        have YB := XO.out.blk
        obtain ⟨c0, c1, c2, c3, c4⟩ := cells5 YB
        clear YB hc hec
        have YR := HY2.out.on HBW9.out
        have HYR := Lib.hid YR
        obtain ⟨z0, z1, z2, z3, z4⟩ := cells5 YR
        obtain ⟨g0, g1, g2, g3, g4⟩ := frozen5 YR
        have yl := YR.lt
        clear YR
        go_wp2
        obtain ⟨q1, q2, q3⟩ := store5 HYR.out (.int .i64 x.dk.net.sta) (.slice h9.A1 h9.n1 h9.c1) (.slice h9.A2 h9.n2 h9.c2) (.slice h9.A3 h9.n3 h9.c3) (.string x.dk.log)
        obtain ⟨r0, r1, r2, r3, r4⟩ := cells5 q1
        obtain ⟨V, hV⟩ : ∃ y, (World.setCell (World.setCell (World.setCell (World.setCell (World.setCell w9 ⟨w.heap.size + 1, 0, none⟩ (.int .i64 x.dk.net.sta)) ⟨w.heap.size + 1, 1, none⟩ (.slice h9.A1 h9.n1 h9.c1)) ⟨w.heap.size + 1, 2, none⟩ (.slice h9.A2 h9.n2 h9.c2)) ⟨w.heap.size + 1, 3, none⟩ (.slice h9.A3 h9.n3 h9.c3)) ⟨w.heap.size + 1, 4, none⟩ (.string x.dk.log)) = y := ⟨_, rfl⟩
        rw [hV] at q3 r0 r1 r2 r3 r4 ⊢
        exact bodyPost_ret (v := .tuple #[.agg #[.int .i64 x.dk.net.sta, .slice h9.A1 h9.n1 h9.c1, .slice h9.A2 h9.n2 h9.c2, .slice h9.A3 h9.n3 h9.c3, .string x.dk.log], .slice LA ln lc, .int .i64 0]) (by simp [results, Tryz.results9, go_sem, r0, r1, r2, r3, r4]) rfl ⟨h9, rh9, LA, ln, lc, by rw [HX.out, HCZ.out]; rfl, by rw [HX.out]; exact cmdDone HB9.out q3 hulo XO.out.own XO.out.row XO.out.lne⟩
      obtain ⟨cn, hcn⟩ := Int.eq_ofNat_of_zero_le hec.1
      have HX := Lib.hid (HX1.out hc)
      rw [hcn] at hc hec ⊢
      have hcb : ((cn : Int) != 0) = true := by rw [bne_iff_ne]; exact hc
      have hcn9 : cn ≤ 10 := by omega
      have HCN := Lib.hid (show x.code.toNat = cn by rw [hcn]; rfl)
      obtain ⟨nm, hnm⟩ : ∃ z, cnm.getD cn ⟨#[]⟩ = z := ⟨_, rfl⟩
      have hov : ¬ (9223372036854775807 < 6 + nm.size) := by have := cnm_size cn; rw [hnm] at this; omega
      have HNM := Lib.hid hnm
      have HEL := Lib.hid (show errL cn = (⟨#[101, 114, 114, 111, 114, 32]⟩ : ByteArray) ++ nm by unfold errL; rw [hnm])
      clear hnm
      have YA := HY.out.on HBW9.out
      obtain ⟨c0, c1, c2, c3, c4⟩ := cells5 YA
      clear YA hc hec hcn
      go_wp2_with fail
      refine (copyDesk_any h d B w9 (HR.out.on HBW.out HBW9.out) HS.out (Nat.le_trans HBW.out HBW9.out.size) HP1.out HP2.out (okDk_ways HOK.out)).mono ?_
      rintro e w10 ⟨h8, rh8, rfl, o8, b8⟩
      simp only [dkv]
      have HO8 := Lib.hid o8
      have HBW10 := Lib.hid (bnext HBW9.out b8 (Nat.le_refl _))
      have HB10 := Lib.hid (bnext HB.out HBW10.out (Nat.le_refl _))
      have HZ10 := Lib.hid b8.size
      clear o8 b8 c0 c1 c2 c3 c4
      go_wp2_with fail
      refine (codeName_any cn hcn9 w10 (HC0.out.upB HLOW.out HB10.out)).mono ?_
      rintro e w11 ⟨rfl, hw11⟩
      have hw11 := hw11.symm
      subst hw11
      rw [HNM.out]
      obtain ⟨v, hv⟩ : ∃ y, w10.alloc (.cells #[.string ((⟨#[101, 114, 114, 111, 114, 32]⟩ : ByteArray) ++ nm)] 9) = y := ⟨_, rfl⟩
      have YR := (HY2.out.on HBW10.out).alloc (.cells #[.string ((⟨#[101, 114, 114, 111, 114, 32]⟩ : ByteArray) ++ nm)] 9)
      rw [hv] at YR
      have HYR := Lib.hid YR
      obtain ⟨z0, z1, z2, z3, z4⟩ := cells5 YR
      obtain ⟨g0, g1, g2, g3, g4⟩ := frozen5 YR
      have yl := YR.lt
      clear YR
      go_wp2
      obtain ⟨q1, q2, q3⟩ := store5 HYR.out (.int .i64 d.net.sta) (.slice h8.A1 h8.n1 h8.c1) (.slice h8.A2 h8.n2 h8.c2) (.slice h8.A3 h8.n3 h8.c3) (.string d.log)
      obtain ⟨r0, r1, r2, r3, r4⟩ := cells5 q1
      obtain ⟨V, hV⟩ : ∃ y, (World.setCell (World.setCell (World.setCell (World.setCell (World.setCell v ⟨w.heap.size + 1, 0, none⟩ (.int .i64 d.net.sta)) ⟨w.heap.size + 1, 1, none⟩ (.slice h8.A1 h8.n1 h8.c1)) ⟨w.heap.size + 1, 2, none⟩ (.slice h8.A2 h8.n2 h8.c2)) ⟨w.heap.size + 1, 3, none⟩ (.slice h8.A3 h8.n3 h8.c3)) ⟨w.heap.size + 1, 4, none⟩ (.string d.log)) = y := ⟨_, rfl⟩
      rw [hV] at q3 r0 r1 r2 r3 r4 ⊢
      rw [← hv] at q3
      exact bodyPost_ret (v := .tuple #[.agg #[.int .i64 d.net.sta, .slice h8.A1 h8.n1 h8.c1, .slice h8.A2 h8.n2 h8.c2, .slice h8.A3 h8.n3 h8.c3, .string d.log], .slice (some ⟨w10.heap.size, 0, none⟩) 1 1, .int .i64 0]) (by simp [results, Tryz.results9, go_sem, r0, r1, r2, r3, r4]) rfl ⟨h8, rh8, _, 1, 1, by rw [HX.out]; rfl, by rw [HX.out, HCN.out, HEL.out]; exact cmdDone1 HB10.out q3 (by have := HZ.out; have := HBW9.out.size; omega) HZ10.out HO8.out⟩
end Go.Proofs.YtjalgpioklcbfaaGreatDoor
