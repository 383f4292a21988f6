/- FnConsole: the console stays valid, and the lines of a text are executed one after the other; for every code. -/
import Derived.Test.YtjalgpioklcbfaaGreatDoorKRuD
import Derived.Test.YtjalgpioklcbfaaGreatDoorMgConsoleAA
import Derived.Test.YtjalgpioklcbfaaGreatDoorMgConsoleAJ
import Derived.Test.YtjalgpioklcbfaaGreatDoorMgConsoleAI
import Derived.Test.YtjalgpioklcbfaaGreatDoorKVdY
set_option linter.unusedVariables false
set_option linter.unusedSimpArgs false
namespace Go.Proofs.YtjalgpioklcbfaaGreatDoor.lawConsole
open Go.RowKit Go.Lib Go.Proofs.YtjalgpioklcbfaaGreatDoor

theorem tab_low {w : World} (h : TabP w) : 4 < w.heap.size := by
 have e : Tryz.prog.globalNamed "internal/strconv.uint64pow10" = some 4 := by kernel_rfl
 unfold TabP Lib.TabIs World.var? at h
 rw [e] at h
 simp only [Option.bind_some] at h
 rcases Nat.lt_or_ge 4 w.heap.size with h' | h'
 ·exact h'
 ·rw [Array.getElem?_eq_none h'] at h; cases h
theorem catL_bd9 {L : List ByteArray} (hb : ∀ x ∈ L, x.size ≤ 33554432) (hl : L.length ≤ 1048576) : (catL L).size ≤ 35184373137408 := by
 have h := catL_bd hb hl L.length
 rwa [List.take_of_length_le (Nat.le_refl _)] at h
theorem textDk_ne {d : Dk} (h : okDk d = true) : (textDk d).toList.isEmpty = false := by
 rw [textDk_yes h]
 rcases he : (textD d.net.sta d.times.length d.runs.length).toList.isEmpty with _ | _
 ·rfl
 ·have h0 : (textD d.net.sta d.times.length d.runs.length).toList = [] := List.isEmpty_iff.1 he
  have hz : (textD d.net.sta d.times.length d.runs.length).size = 0 := by rw [← data_len, ← ByteArray.toList_eq, h0]; rfl
  unfold textD at hz
  simp only [ByteArray.size_append] at hz
  have : (⟨#[32, 115, 116, 97, 116, 105, 111, 110, 115, 44, 32]⟩ : ByteArray).size = 11 := rfl
  omega
set_option maxHeartbeats 4000000 in
set_option maxRecDepth 100000 in
theorem walk (A0 : Option Addr) (n0 c0 : Nat) (bs : List Int) (w : World) (h0 : Reads w w.heap.size 1 A0 n0 (byts bs)) (hn0 : n0 ≤ 9223372036854775807) (hb0 : ∀ x ∈ bs, Byt x) (m : Int) (hm : w.cell? ⟨1, 0, none⟩ = some (.int .i64 m)) (ht : TabP w) (hv : SynP w) (hcn : CnP w) :
  Calls Tryz.prog 3 #[.slice A0 n0 c0] w fun e w' => e = .returned (.bool true) ∧ Below w.heap.size w w' := by
 have HLOW := Lib.hid (tab_low ht)
 have HT0 := Lib.hid ht
 have HM0 := Lib.hid hm
 have HV0 := Lib.hid hv
 have HC0 := Lib.hid hcn
 have HBY := Lib.hid hb0
 clear hm hv ht hcn hb0
 go_enter Tryz.func3, Tryz.ntmps3
 go_wp2_with fail
 refine (a2Long_any A0 n0 c0 none 0 0 _ hn0 (by omega)).mono ?_
 rintro e w' ⟨rfl, rfl⟩
 rcases hbig : (decide (3000 < n0) || decide (3000 < 0)) with _ | _
 rotate_left
 ·go_wp2
  go_ret
  exact ⟨rfl, Below.refl _ _⟩
 clear hbig
 go_wp2_with fail
 refine (a2Lines_any A0 n0 c0 bs _ h0 HBY.out hn0).mono ?_
 rintro e w1 ⟨ls, Al, dl, rfl, hl8, hlp, s1, b1⟩
 have HLP := Lib.hid hlp
 have HS1 := Lib.hid s1
 have HB1 := Lib.hid b1
 clear hlp s1 b1 h0
 obtain ⟨nn, hnn⟩ : ∃ z, ls.length = z := ⟨_, rfl⟩
 rw [hnn] at hl8 HS1 ⊢
 have HNN := Lib.hid hnn
 clear hnn
 go_wp2_with fail
 refine (implNewDesk_any m w1 (cell_on HB1.out HM0.out) (tabUp HT0.out HB1.out) (synUp HV0.out HB1.out)).mono ?_
 rintro e w2 ⟨h0, rfl, o2, b2⟩
 go_wp2_with fail
 obtain ⟨u, hu⟩ : ∃ y, w2.alloc (.cells #[.int .i64 3, .slice h0.A1 h0.n1 h0.c1, .slice h0.A2 h0.n2 h0.c2, .slice h0.A3 h0.n3 h0.c3, .string ⟨#[]⟩] 32) = y := ⟨_, rfl⟩
 have yu : Blk u w2.heap.size 32 #[.int .i64 3, .slice h0.A1 h0.n1 h0.c1, .slice h0.A2 h0.n2 h0.c2, .slice h0.A3 h0.n3 h0.c3, .string ⟨#[]⟩] := by rw [← hu]; exact Blk.new _ _ _
 have bu : Below w2.heap.size w2 u := by rw [← hu]; exact (Below.refl _ _).alloc (Nat.le_refl _) _
 rw [hu]
 have HYU := Lib.hid yu
 have HOU := Lib.hid (o2.on bu).low
 have HDU := Lib.hid (show ∀ b, inD h0 [] b → b ≠ w2.heap.size from fun b hb e => by have := (o2.inD_lt hb).2; omega)
 have HBU := Lib.hid (bnext b2 bu (Nat.le_refl _))
 have HG1 := Lib.hid (show w1.heap.size ≤ w2.heap.size from b2.size)
 clear hu yu bu o2 b2
 go_loopw [5, 6, 7] (fun tx wt i wr => ∃ (k : Nat) (hd : DkH) (rh : List RnH), k ≤ nn ∧ i = .int .i64 (k : Int) ∧ tx = .string (catL (ls.take k)) ∧ wt = .string (catL (runTo ls k).2) ∧ Blk wr w2.heap.size 32 #[.int .i64 (runTo ls k).1.net.sta, .slice hd.A1 hd.n1 hd.c1, .slice hd.A2 hd.n2 hd.c2, .slice hd.A3 hd.n3 hd.c3, .string (runTo ls k).1.log] ∧ OwnD wr w1.heap.size wr.heap.size hd (runTo ls k).1 rh ∧ (∀ b, inD hd rh b → b ≠ w2.heap.size) ∧ Below w1.heap.size w1 wr) (fun _ _ i _ => nn - (RowKit.intOf i).toNat)
 case atStart => exact ⟨0, h0, [], Nat.zero_le _, rfl, rfl, rfl, HYU.out, HOU.out, HDU.out, HBU.out⟩
 case round =>
  obtain ⟨k, hd, rh, hk, rfl, rfl, rfl, hy, ho, hdg, hbel⟩ := hrel
  have HLS := Lib.hid (fun l (h : l ∈ ls) => (HLP.out l h).2)
  have HSZS := Lib.hid (runTo_ok (ls := ls) (fun l hl => by have := HLS.out l hl; omega) k)
  have HTS := Lib.hid (show (catL (ls.take k)).size ≤ 101 * 8 by
   have h1 := catL_size 100 (ls := ls.take k) fun x hx => HLS.out x (List.mem_of_mem_take hx)
   have h2 : (ls.take k).length ≤ 8 := by rw [List.length_take, HNN.out]; omega
   exact Nat.le_trans h1 (Nat.mul_le_mul_left _ h2))
  have HBAD := Lib.hid (fun (l : ByteArray) (hl : ls[k]? = some l) (hc : (cmdF (runTo ls k).1 l).code ≠ 0) => runTo_bad hl hc)
  have HGOOD := Lib.hid (fun (l : ByteArray) (hl : ls[k]? = some l) (hc : (cmdF (runTo ls k).1 l).code = 0) => runTo_good hl hc)
  have HCT := Lib.hid (fun (l : ByteArray) (hl : ls[k]? = some l) => catL_step hl)
  have HRUN := Lib.hid (show nn = k → runT (catL (ls.take k)) = catL (runTo ls k).2 from fun h => by
   have e : ls.take k = ls := List.take_of_length_le (by rw [HNN.out]; omega)
   rw [e, runT_cat (fun x hx => (HLP.out x hx).1) (by rw [HNN.out]; omega), HNN.out, h])
  obtain ⟨st, hst⟩ : ∃ z, runTo ls k = z := ⟨_, rfl⟩
  rw [hst] at HSZS HBAD HGOOD HRUN hy ho ⊢
  obtain ⟨dk, rl⟩ := st
  simp only at HSZS HBAD HGOOD HRUN hy ho ⊢
  obtain ⟨tq, htk⟩ : ∃ z, catL (ls.take k) = z := ⟨_, rfl⟩
  rw [htk] at HTS HCT HRUN ⊢
  have hws : (catL rl).size ≤ 35184373137408 := catL_bd9 HSZS.out.2.2 (by have := HSZS.out.2.1; omega)
  obtain ⟨wk, hwk⟩ : ∃ z, catL rl = z := ⟨_, rfl⟩
  rw [hwk] at hws HRUN ⊢
  have HWK := Lib.hid hwk
  have HY := Lib.hid hy
  have HO := Lib.hid ho
  have HDG := Lib.hid hdg
  have HBR := Lib.hid hbel
  have HB0 := Lib.hid (bnext HB1.out hbel (Nat.le_refl _))
  have hzr : w1.heap.size ≤ wr.heap.size := hbel.size
  have HGW := Lib.hid (show w2.heap.size < wr.heap.size from hy.lt)
  clear ho hdg hbel hst htk hwk
  have hki : (0 : Int) ≤ k := by omega
  by_cases hlt : k < nn
  ·have hkn : (k : Int) < nn := by omega
   obtain ⟨x, bb, oo, hx, rfl, hbb, q0⟩ := str_at ((HS1.out.reads (Nat.le_refl _)).on (Nat.le_refl _) HBR.out) hlt
   have hxs := HLS.out x (List.mem_of_getElem? hx)
   have hdok := HSZS.out.1
   have HCM := Lib.hid (cmdF_ok hdok x (by omega))
   have HTX := Lib.hid (HCT.out x hx)
   have hbad := HBAD.out x hx
   have hgood := HGOOD.out x hx
   obtain ⟨cm, hcm⟩ : ∃ z, cmdF dk x = z := ⟨_, rfl⟩
   rw [hcm] at HCM hbad hgood
   have HCMD := Lib.hid hcm
   have HBD := Lib.hid hbad
   have HGD := Lib.hid hgood
   have htks := HTS.out
   have ov1 : ¬ (9223372036854775807 < x.size + 1) := by omega
   have ov2 : ¬ (9223372036854775807 < tq.size + (x.size + 1)) := by omega
   obtain ⟨c0, c1, c2, c3, c4⟩ := cells5 hy
   clear hy hx hcm hbad hgood
   go_upto_region 11 with fail
   refine wp_region_held_drew (S := (fun V => Below wr.heap.size wr V)) (by kernel_rfl) ?_ (fun hHeld => ?_)
   ·exact (Below.refl _ _).drew
   refine tk 0 rfl ?_ ?_ ?_
   rotate_left
   ·intro w hSw; (try dsimp only at hSw); (have y0 := cell_on hSw c0); (have y1 := cell_on hSw c1); (have y2 := cell_on hSw c2); (have y3 := cell_on hSw c3); (have y4 := cell_on hSw c4); (have yq := cell_on hSw q0); go_simp; try with_reducible rfl
   try simp only [Act.put, ly]
   refine tk 1 rfl ?_ ?_ ?_
   rotate_left
   ·intro w _; go_simp; try with_reducible rfl
   try simp only [Act.put, ly]
   refine tk 2 rfl ?_ ?_ ?_
   rotate_left
   ·intro w _; go_simp; try with_reducible rfl
   try simp only [Act.put, ly]
   refine tk 3 rfl ?_ ?_ ?_
   rotate_left
   ·intro w _; go_simp; try with_reducible rfl
   try simp only [Act.put, ly]
   refine tk 4 rfl ?_ ?_ ?_
   rotate_left
   ·intro w hSw; (try dsimp only at hSw); (have y0 := cell_on hSw c0); (have y1 := cell_on hSw c1); (have y2 := cell_on hSw c2); (have y3 := cell_on hSw c3); (have y4 := cell_on hSw c4); (have yq := cell_on hSw q0); go_simp; try with_reducible rfl
   try simp only [Act.put, ly]
   refine wpAnyH_ready (rs := [5, 10]) (by kernel_rfl) (by simp) ?_
   refine AllReadyH.cons rfl (fun K hK => ?_) ?_
   ·skip
    go_simp
    refine (deskCommand_any (h := hd) (d := dk) (line := x) (m := m) (B := wr.heap.size) ((HO.out.reads (Nat.le_refl _)).on (Nat.le_refl _) hHeld) (okDk_S HO.out hdok) hHeld.size (Sl.plainA HO.out.tubes) (Sl.plainA HO.out.times) (by omega) (maxUpB HM0.out HLOW.out (bnext HB0.out hHeld (Nat.le_refl _))) (tabUpB HT0.out HLOW.out (bnext HB0.out hHeld (Nat.le_refl _))) (synUpB HV0.out HLOW.out (bnext HB0.out hHeld (Nat.le_refl _))) (HC0.out.upB HLOW.out (bnext HB0.out hHeld (Nat.le_refl _))) (Nat.lt_of_lt_of_le HLOW.out (bnext HB0.out hHeld (Nat.le_refl _)).size)).mono ?_
    rintro e w5 ⟨h5, rh5, LA, ln, lc, rfl, co⟩
    simp only [dkv]
    rw [HCMD.out] at co ⊢
    have HCO := Lib.hid co
    have HBW5 := Lib.hid (bnext hHeld co.bel (Nat.le_refl _))
    have hz5 : wr.heap.size ≤ w5.heap.size := (bnext hHeld co.bel (Nat.le_refl _)).size
    have hzh := hHeld.size
    have HO5 := Lib.hid (co.own.wide hzh (Nat.le_refl _))
    have HS5 := Lib.hid (co.row.wide hzh (Nat.le_refl _))
    have HD5 := Lib.hid (show ∀ b, inD h5 rh5 b → b ≠ w5.heap.size from fun b hb e => by have := (co.own.inD_lt hb).2; omega)
    have HL5 := Lib.hid (show ∀ b, inB LA b → b ≠ w5.heap.size from fun b hb e => by have := (co.row.inB_lt hb).2; omega)
    clear co
    refine hK.out _ _ ?_ (fun hNew => ?_)
    ·exact bnext hHeld HCO.out.bel (Nat.le_refl _)
    clear hK K hHeld
    have hHeld := hNew
    clear hNew
    try simp only [Act.put, ly]
    refine tk 6 rfl ?_ ?_ ?_
    rotate_left
    ·intro w _; go_simp; try with_reducible rfl
    try simp only [Act.put, ly]
    refine tk 7 rfl ?_ ?_ ?_
    rotate_left
    ·intro w _; go_simp; try with_reducible rfl
    try simp only [Act.put, ly]
    refine tk 8 rfl ?_ ?_ ?_
    rotate_left
    ·intro w _; go_simp; try with_reducible rfl
    try simp only [Act.put, ly]
    refine tk 9 rfl ?_ ?_ ?_
    rotate_left
    ·intro w _; go_simp; try with_reducible rfl
    try simp only [Act.put, ly]
    refine wpAnyH_ready (rs := [10]) (by kernel_rfl) (by simp) ?_
    refine AllReadyH.cons rfl (fun K hK => ?_) AllReadyH.nil
    go_simp
    refine hK.out _ _ ?_ (fun hNew => ?_)
    ·exact hHeld.alloc hHeld.size _
    clear hK K hHeld
    have hHeld := hNew
    clear hNew
    try simp only [Act.put, ly]
    refine wpAnyH_ready (rs := [11]) (by kernel_rfl) (by simp) ?_
    refine AllReadyH.cons rfl (fun K hK => ?_) AllReadyH.nil
    go_simp
    refine hK.out _ _ ?_ (fun hNew => ?_)
    ·exact HBW5.out.alloc HBW5.out.size _
    clear hK K hHeld
    have hHeld := hNew
    clear hNew
    try simp only [Act.put, ly]
    refine tk 12 rfl ?_ ?_ ?_
    rotate_left
    ·intro w _; go_simp; try with_reducible rfl
    try simp only [Act.put, ly]
    refine tk 13 rfl ?_ ?_ ?_
    rotate_left
    ·intro w _; go_simp; try with_reducible rfl
    try simp only [Act.put, ly]
    refine wpAnyH_done (by kernel_rfl) ?_ _
    obtain ⟨V, hV⟩ : ∃ y, w5.alloc (.cells #[.int .i64 cm.dk.net.sta, .slice h5.A1 h5.n1 h5.c1, .slice h5.A2 h5.n2 h5.c2, .slice h5.A3 h5.n3 h5.c3, .string cm.dk.log] 32) = y := ⟨_, rfl⟩
    have q1 : Blk V w5.heap.size 32 #[.int .i64 cm.dk.net.sta, .slice h5.A1 h5.n1 h5.c1, .slice h5.A2 h5.n2 h5.c2, .slice h5.A3 h5.n3 h5.c3, .string cm.dk.log] := by rw [← hV]; exact Blk.new _ _ _
    have hoff : Off (fun b => b = w5.heap.size) w5 V := Off.of_below (by rw [← hV]; exact (Below.refl _ _).alloc (Nat.le_refl _) _) _
    rw [hV] at hHeld ⊢
    have HYV := Lib.hid (show Blk V w5.heap.size 32 #[.int .i64 cm.dk.net.sta, .slice h5.A1 h5.n1 h5.c1, .slice h5.A2 h5.n2 h5.c2, .slice h5.A3 h5.n3 h5.c3, .string cm.dk.log] from q1)
    have HOV := Lib.hid (show OwnD V wr.heap.size V.heap.size h5 cm.dk rh5 from (HO5.out.off (S := fun b => b = w5.heap.size) hoff (fun b hb e => HD5.out b hb e)).low)
    have HSV := Lib.hid (show Sl V wr.heap.size V.heap.size 9 1 LA ln lc (strs cm.lines) from (HS5.out.off (S := fun b => b = w5.heap.size) hoff (fun b hb e => HL5.out b hb e)).low)
    have HBV := Lib.hid hHeld
    have HB1V := Lib.hid (HBR.out.trans (hHeld.mono hzr))
    have HB0V := Lib.hid (bnext HB1.out HB1V.out (Nat.le_refl _))
    have hln : cm.lines.length = ln := by have := HS5.out.len; rw [strs_length] at this; omega
    have HLN := Lib.hid hln
    clear hHeld q1 hoff hV HO5 HS5 hln
    rcases HCM.out.1 with hc0 | hc7
    rotate_left
    ·have HRT := Lib.hid (HBD.out (by rw [hc7]; decide))
     have HCW := Lib.hid (show catL (rl ++ [⟨#[63]⟩]) = wk ++ (⟨#[63, 10]⟩ : ByteArray) by rw [catL_snoc, HWK.out]; rfl)
     have ov3 : ¬ (9223372036854775807 < wk.size + 2) := by omega
     rw [hc7]
     go_wp2
     go_roundw
     case rel => exact ⟨k + 1, hd, rh, by omega, by go_num, by rw [HTX.out], by rw [HRT.out, HCW.out], by rw [HRT.out]; exact HY.out.on HBV.out, by rw [HRT.out]; exact (HO.out.on HBV.out).low, HDG.out, HB1V.out⟩
     case measure => simp [RowKit.intOf]; omega
    have HRT := Lib.hid (HGD.out hc0)
    have hgd := HCM.out.2.1 hc0
    have hok5 := hgd.1
    have hl0 : 0 < ln := by rw [← HLN.out]; exact List.length_pos_iff.2 hgd.2
    have hl2 : ln ≤ 4002 := by rw [← HLN.out]; exact HCM.out.2.2.1
    have hl1 : ¬ ((ln : Int) < 1) := by omega
    have HSML := Lib.hid HCM.out.2.2
    have hne := textDk_ne hok5
    have YV := HYV.out
    obtain ⟨c0, c1, c2, c3, c4⟩ := cells5 YV
    rw [hc0]
    clear hgd YV
    go_wp2_with fail
    refine (specValidDesk_any h5 cm.dk V.heap.size V (HOV.out.reads (Nat.le_refl _)) (okDk_S HOV.out hok5) (Nat.le_refl _)).mono ?_
    rintro e w6 ⟨rfl, b6⟩
    rw [hok5]
    have HB6 := Lib.hid b6
    have HB06 := Lib.hid (bnext HB0V.out b6 (Nat.le_refl _))
    have YV := HYV.out.on b6
    clear c0 c1 c2 c3 c4 b6
    obtain ⟨c0, c1, c2, c3, c4⟩ := cells5 YV
    clear YV
    go_wp2_with fail
    refine (implDeskText_any h5 cm.dk m V.heap.size w6 ((HOV.out.reads (Nat.le_refl _)).on (Nat.le_refl _) HB6.out) (okDk_S HOV.out hok5) HB6.out.size (maxUpB HM0.out HLOW.out HB06.out) (tabUpB HT0.out HLOW.out HB06.out) (synUpB HV0.out HLOW.out HB06.out)).mono ?_
    rintro e w7 ⟨rfl, b7⟩
    have HV7 := Lib.hid (bnext HB6.out b7 (Nat.le_refl _))
    clear b7 c0 c1 c2 c3 c4
    obtain ⟨tdk, htdk⟩ : ∃ z, textDk cm.dk = z := ⟨_, rfl⟩
    rw [htdk] at hne ⊢
    clear htdk
    have hne2 : (!tdk.toList.isEmpty) = true := by rw [hne]; rfl
    have hne3 : ¬ tdk.toList = [] := by intro e; rw [e] at hne; cases hne
    have hne4 : (tdk.toList == []) = false := by rw [beq_eq_false_iff_ne]; exact hne3
    go_wp2_with fail
    go_loopw [6, 11] (fun a j wq => ∃ q : Nat, q ≤ ln ∧ j = .int .i64 (q : Int) ∧ a = .string (wk ++ catL (cm.lines.take q)) ∧ wq = w7) (fun _ j _ => ln - (RowKit.intOf j).toNat)
    case atStart => exact ⟨0, Nat.zero_le _, rfl, by rw [List.take_zero]; congr 1; apply bytes_ext; rw [data_app]; simp [catL], rfl⟩
    case round =>
     obtain ⟨q, hq, rfl, rfl, hw7⟩ := hrel
     have hw7 := hw7.symm
     subst hw7
     have hqi : (0 : Int) ≤ q := by omega
     by_cases hlq : q < ln
     ·obtain ⟨y, bY, oY, hyq, rfl, hbY, p1⟩ := str_at ((HSV.out.reads (Nat.le_refl _)).on (Nat.le_refl _) HV7.out) hlq
      have hys := HSML.out.2 y (List.mem_of_getElem? hyq)
      have hcb := catL_bd (fun x hx => HSML.out.2 x hx) (Nat.le_trans HSML.out.1 (by decide)) q
      have HCS := Lib.hid (show wk ++ catL (cm.lines.take (q + 1)) = wk ++ catL (cm.lines.take q) ++ (y ++ ⟨#[10]⟩) by rw [catL_step hyq]; apply bytes_ext; simp only [data_app, List.append_assoc])
      obtain ⟨cq, hcq⟩ : ∃ z, wk ++ catL (cm.lines.take q) = z := ⟨_, rfl⟩
      have hcz : cq.size = wk.size + (catL (cm.lines.take q)).size := by rw [← hcq, ByteArray.size_append]
      rw [hcq] at HCS ⊢
      have o1 : ¬ (9223372036854775807 < y.size + 1) := by omega
      have o2 : ¬ (9223372036854775807 < cq.size + (y.size + 1)) := by omega
      have hqn : (q : Int) < ((ln : Nat) : Int) := by omega
      clear hyq hcq hcb hcz
      go_wp2
      go_roundw
      case rel => exact ⟨q + 1, by omega, by go_num, by rw [HCS.out], by simp⟩
      case measure => simp [RowKit.intOf]; omega
     ·obtain rfl : q = ln := by omega
      have HCE := Lib.hid (show wk ++ catL (cm.lines.take q) = catL (rl ++ cm.lines) by rw [List.take_of_length_le (by rw [HLN.out]; exact Nat.le_refl _), catL_append, HWK.out])
      have hqn : ¬ (((q : Nat) : Int) < ((q : Nat) : Int)) := by omega
      rw [HCE.out]
      have Y7 := HYV.out.on HV7.out
      obtain ⟨c0, c1, c2, c3, c4⟩ := cells5 Y7
      have YG := (HY.out.on HBV.out).on HV7.out
      obtain ⟨z0, z1, z2, z3, z4⟩ := cells5 YG
      obtain ⟨g0, g1, g2, g3, g4⟩ := frozen5 YG
      have yl := YG.lt
      have HYG := Lib.hid YG
      clear Y7 YG
      go_wp2
      obtain ⟨q1, q2, q3⟩ := store5 HYG.out (.int .i64 cm.dk.net.sta) (.slice h5.A1 h5.n1 h5.c1) (.slice h5.A2 h5.n2 h5.c2) (.slice h5.A3 h5.n3 h5.c3) (.string cm.dk.log)
      obtain ⟨X, hX⟩ : ∃ y, (World.setCell (World.setCell (World.setCell (World.setCell (World.setCell w7 ⟨w2.heap.size, 0, none⟩ (.int .i64 cm.dk.net.sta)) ⟨w2.heap.size, 1, none⟩ (.slice h5.A1 h5.n1 h5.c1)) ⟨w2.heap.size, 2, none⟩ (.slice h5.A2 h5.n2 h5.c2)) ⟨w2.heap.size, 3, none⟩ (.slice h5.A3 h5.n3 h5.c3)) ⟨w2.heap.size, 4, none⟩ (.string cm.dk.log)) = y := ⟨_, rfl⟩
      rw [hX] at q1 q2 q3 ⊢
      have HQ1 := Lib.hid q1
      have HQ3 := Lib.hid q3
      clear q1 q2 q3 hX
      go_roundw
      case rel =>
       refine ⟨k + 1, h5, rh5, by omega, by go_num, by rw [HTX.out], by rw [HRT.out], by rw [HRT.out]; exact HQ1.out, ?_, fun b hb e => ?_, ?_⟩
       ·rw [HRT.out]
        exact (((HOV.out.on HV7.out).low.off (S := fun b => b = w2.heap.size) ⟨HQ3.out.os, HQ3.out.tape, HQ3.out.output, HQ3.out.size, fun k hk hn => HQ3.out.block k hk (by omega)⟩ (fun b hb e => by have := (HOV.out.inD_lt hb).1; have := HGW.out; omega)).low).wide hzr (Nat.le_refl _)
       ·have := (HOV.out.inD_lt hb).1; have := HGW.out; omega
       ·have h1 := bnext HB1V.out HV7.out (Nat.le_refl _)
        exact h1.trans (HQ3.out.below HG1.out h1.size)
      case measure => simp [RowKit.intOf]; omega
   refine AllReadyH.cons rfl (fun K hK => ?_) ?_
   ·skip
    go_simp
    refine hK.out _ _ ?_ (fun hNew => ?_)
    ·exact hHeld.alloc hHeld.size _
    clear hK K hHeld
    have hHeld := hNew
    clear hNew
    try simp only [Act.put, ly]
    refine wpAnyH_ready (rs := [5]) (by kernel_rfl) (by simp) ?_
    refine AllReadyH.cons rfl (fun K hK => ?_) AllReadyH.nil
    go_simp
    refine (deskCommand_any (h := hd) (d := dk) (line := x) (m := m) (B := wr.heap.size) ((HO.out.reads (Nat.le_refl _)).on (Nat.le_refl _) hHeld) (okDk_S HO.out hdok) hHeld.size (Sl.plainA HO.out.tubes) (Sl.plainA HO.out.times) (by omega) (maxUpB HM0.out HLOW.out (bnext HB0.out hHeld (Nat.le_refl _))) (tabUpB HT0.out HLOW.out (bnext HB0.out hHeld (Nat.le_refl _))) (synUpB HV0.out HLOW.out (bnext HB0.out hHeld (Nat.le_refl _))) (HC0.out.upB HLOW.out (bnext HB0.out hHeld (Nat.le_refl _))) (Nat.lt_of_lt_of_le HLOW.out (bnext HB0.out hHeld (Nat.le_refl _)).size)).mono ?_
    rintro e w5 ⟨h5, rh5, LA, ln, lc, rfl, co⟩
    simp only [dkv]
    rw [HCMD.out] at co ⊢
    have HCO := Lib.hid co
    have HBW5 := Lib.hid (bnext hHeld co.bel (Nat.le_refl _))
    have hz5 : wr.heap.size ≤ w5.heap.size := (bnext hHeld co.bel (Nat.le_refl _)).size
    have hzh := hHeld.size
    have HO5 := Lib.hid (co.own.wide hzh (Nat.le_refl _))
    have HS5 := Lib.hid (co.row.wide hzh (Nat.le_refl _))
    have HD5 := Lib.hid (show ∀ b, inD h5 rh5 b → b ≠ wr.heap.size from fun b hb e => by have := (co.own.inD_lt hb).1; simp at this; omega)
    have HL5 := Lib.hid (show ∀ b, inB LA b → b ≠ wr.heap.size from fun b hb e => by have := (co.row.inB_lt hb).1; simp at this; omega)
    clear co
    refine hK.out _ _ ?_ (fun hNew => ?_)
    ·exact bnext hHeld HCO.out.bel (Nat.le_refl _)
    clear hK K hHeld
    have hHeld := hNew
    clear hNew
    try simp only [Act.put, ly]
    refine tk 6 rfl ?_ ?_ ?_
    rotate_left
    ·intro w _; go_simp; try with_reducible rfl
    try simp only [Act.put, ly]
    refine tk 7 rfl ?_ ?_ ?_
    rotate_left
    ·intro w _; go_simp; try with_reducible rfl
    try simp only [Act.put, ly]
    refine tk 8 rfl ?_ ?_ ?_
    rotate_left
    ·intro w _; go_simp; try with_reducible rfl
    try simp only [Act.put, ly]
    refine tk 9 rfl ?_ ?_ ?_
    rotate_left
    ·intro w _; go_simp; try with_reducible rfl
    try simp only [Act.put, ly]
    refine wpAnyH_ready (rs := [11]) (by kernel_rfl) (by simp) ?_
    refine AllReadyH.cons rfl (fun K hK => ?_) AllReadyH.nil
    have YN : Blk w5 wr.heap.size 32 #[.int .i64 0, .slice none 0 0, .slice none 0 0, .slice none 0 0, .string ⟨#[]⟩] := (show Blk (wr.alloc (.cells #[.int .i64 0, .slice none 0 0, .slice none 0 0, .slice none 0 0, .string ⟨#[]⟩] 32)).drew wr.heap.size 32 #[.int .i64 0, .slice none 0 0, .slice none 0 0, .slice none 0 0, .string ⟨#[]⟩] from (Blk.new wr _ _).drew).on HCO.out.bel
    obtain ⟨z0, z1, z2, z3, z4⟩ := cells5 YN
    obtain ⟨g0, g1, g2, g3, g4⟩ := frozen5 YN
    have yl := YN.lt
    go_simp
    refine hK.out _ _ ?_ (fun hNew => ?_)
    ·obtain ⟨q1, q2, q3⟩ := store5 YN (.int .i64 cm.dk.net.sta) (.slice h5.A1 h5.n1 h5.c1) (.slice h5.A2 h5.n2 h5.c2) (.slice h5.A3 h5.n3 h5.c3) (.string cm.dk.log)
     exact hHeld.trans (q3.below (Nat.le_refl _) hHeld.size)
    clear hK K hHeld
    have hHeld := hNew
    clear hNew
    try simp only [Act.put, ly]
    refine tk 12 rfl ?_ ?_ ?_
    rotate_left
    ·intro w _; go_simp; try with_reducible rfl
    try simp only [Act.put, ly]
    refine tk 13 rfl ?_ ?_ ?_
    rotate_left
    ·intro w _; go_simp; try with_reducible rfl
    try simp only [Act.put, ly]
    refine wpAnyH_done (by kernel_rfl) ?_ _
    obtain ⟨q1, q2, q3⟩ := store5 YN (.int .i64 cm.dk.net.sta) (.slice h5.A1 h5.n1 h5.c1) (.slice h5.A2 h5.n2 h5.c2) (.slice h5.A3 h5.n3 h5.c3) (.string cm.dk.log)
    obtain ⟨V, hV⟩ : ∃ y, (World.setCell (World.setCell (World.setCell (World.setCell (World.setCell w5 ⟨wr.heap.size, 0, none⟩ (.int .i64 cm.dk.net.sta)) ⟨wr.heap.size, 1, none⟩ (.slice h5.A1 h5.n1 h5.c1)) ⟨wr.heap.size, 2, none⟩ (.slice h5.A2 h5.n2 h5.c2)) ⟨wr.heap.size, 3, none⟩ (.slice h5.A3 h5.n3 h5.c3)) ⟨wr.heap.size, 4, none⟩ (.string cm.dk.log)) = y := ⟨_, rfl⟩
    rw [hV] at q1 q2 q3 hHeld ⊢
    have hoff : Off (fun b => b = wr.heap.size) w5 V := ⟨q3.os, q3.tape, q3.output, q3.size, fun k hk hn => q3.block k hk (by omega)⟩
    clear YN z0 z1 z2 z3 z4 g0 g1 g2 g3 g4 yl q2 q3
    have HYV := Lib.hid (show Blk V wr.heap.size 32 #[.int .i64 cm.dk.net.sta, .slice h5.A1 h5.n1 h5.c1, .slice h5.A2 h5.n2 h5.c2, .slice h5.A3 h5.n3 h5.c3, .string cm.dk.log] from q1)
    have HOV := Lib.hid (show OwnD V wr.heap.size V.heap.size h5 cm.dk rh5 from (HO5.out.off (S := fun b => b = wr.heap.size) hoff (fun b hb e => HD5.out b hb e)).low)
    have HSV := Lib.hid (show Sl V wr.heap.size V.heap.size 9 1 LA ln lc (strs cm.lines) from (HS5.out.off (S := fun b => b = wr.heap.size) hoff (fun b hb e => HL5.out b hb e)).low)
    have HBV := Lib.hid hHeld
    have HB1V := Lib.hid (HBR.out.trans (hHeld.mono hzr))
    have HB0V := Lib.hid (bnext HB1.out HB1V.out (Nat.le_refl _))
    have hln : cm.lines.length = ln := by have := HS5.out.len; rw [strs_length] at this; omega
    have HLN := Lib.hid hln
    clear hHeld q1 hoff hV HO5 HS5 hln
    rcases HCM.out.1 with hc0 | hc7
    rotate_left
    ·have HRT := Lib.hid (HBD.out (by rw [hc7]; decide))
     have HCW := Lib.hid (show catL (rl ++ [⟨#[63]⟩]) = wk ++ (⟨#[63, 10]⟩ : ByteArray) by rw [catL_snoc, HWK.out]; rfl)
     have ov3 : ¬ (9223372036854775807 < wk.size + 2) := by omega
     rw [hc7]
     go_wp2
     go_roundw
     case rel => exact ⟨k + 1, hd, rh, by omega, by go_num, by rw [HTX.out], by rw [HRT.out, HCW.out], by rw [HRT.out]; exact HY.out.on HBV.out, by rw [HRT.out]; exact (HO.out.on HBV.out).low, HDG.out, HB1V.out⟩
     case measure => simp [RowKit.intOf]; omega
    have HRT := Lib.hid (HGD.out hc0)
    have hgd := HCM.out.2.1 hc0
    have hok5 := hgd.1
    have hl0 : 0 < ln := by rw [← HLN.out]; exact List.length_pos_iff.2 hgd.2
    have hl2 : ln ≤ 4002 := by rw [← HLN.out]; exact HCM.out.2.2.1
    have hl1 : ¬ ((ln : Int) < 1) := by omega
    have HSML := Lib.hid HCM.out.2.2
    have hne := textDk_ne hok5
    have YV := HYV.out
    obtain ⟨c0, c1, c2, c3, c4⟩ := cells5 YV
    rw [hc0]
    clear hgd YV
    go_wp2_with fail
    refine (specValidDesk_any h5 cm.dk V.heap.size V (HOV.out.reads (Nat.le_refl _)) (okDk_S HOV.out hok5) (Nat.le_refl _)).mono ?_
    rintro e w6 ⟨rfl, b6⟩
    rw [hok5]
    have HB6 := Lib.hid b6
    have HB06 := Lib.hid (bnext HB0V.out b6 (Nat.le_refl _))
    have YV := HYV.out.on b6
    clear c0 c1 c2 c3 c4 b6
    obtain ⟨c0, c1, c2, c3, c4⟩ := cells5 YV
    clear YV
    go_wp2_with fail
    refine (implDeskText_any h5 cm.dk m V.heap.size w6 ((HOV.out.reads (Nat.le_refl _)).on (Nat.le_refl _) HB6.out) (okDk_S HOV.out hok5) HB6.out.size (maxUpB HM0.out HLOW.out HB06.out) (tabUpB HT0.out HLOW.out HB06.out) (synUpB HV0.out HLOW.out HB06.out)).mono ?_
    rintro e w7 ⟨rfl, b7⟩
    have HV7 := Lib.hid (bnext HB6.out b7 (Nat.le_refl _))
    clear b7 c0 c1 c2 c3 c4
    obtain ⟨tdk, htdk⟩ : ∃ z, textDk cm.dk = z := ⟨_, rfl⟩
    rw [htdk] at hne ⊢
    clear htdk
    have hne2 : (!tdk.toList.isEmpty) = true := by rw [hne]; rfl
    have hne3 : ¬ tdk.toList = [] := by intro e; rw [e] at hne; cases hne
    have hne4 : (tdk.toList == []) = false := by rw [beq_eq_false_iff_ne]; exact hne3
    go_wp2_with fail
    go_loopw [6, 11] (fun a j wq => ∃ q : Nat, q ≤ ln ∧ j = .int .i64 (q : Int) ∧ a = .string (wk ++ catL (cm.lines.take q)) ∧ wq = w7) (fun _ j _ => ln - (RowKit.intOf j).toNat)
    case atStart => exact ⟨0, Nat.zero_le _, rfl, by rw [List.take_zero]; congr 1; apply bytes_ext; rw [data_app]; simp [catL], rfl⟩
    case round =>
     obtain ⟨q, hq, rfl, rfl, hw7⟩ := hrel
     have hw7 := hw7.symm
     subst hw7
     have hqi : (0 : Int) ≤ q := by omega
     by_cases hlq : q < ln
     ·obtain ⟨y, bY, oY, hyq, rfl, hbY, p1⟩ := str_at ((HSV.out.reads (Nat.le_refl _)).on (Nat.le_refl _) HV7.out) hlq
      have hys := HSML.out.2 y (List.mem_of_getElem? hyq)
      have hcb := catL_bd (fun x hx => HSML.out.2 x hx) (Nat.le_trans HSML.out.1 (by decide)) q
      have HCS := Lib.hid (show wk ++ catL (cm.lines.take (q + 1)) = wk ++ catL (cm.lines.take q) ++ (y ++ ⟨#[10]⟩) by rw [catL_step hyq]; apply bytes_ext; simp only [data_app, List.append_assoc])
      obtain ⟨cq, hcq⟩ : ∃ z, wk ++ catL (cm.lines.take q) = z := ⟨_, rfl⟩
      have hcz : cq.size = wk.size + (catL (cm.lines.take q)).size := by rw [← hcq, ByteArray.size_append]
      rw [hcq] at HCS ⊢
      have o1 : ¬ (9223372036854775807 < y.size + 1) := by omega
      have o2 : ¬ (9223372036854775807 < cq.size + (y.size + 1)) := by omega
      have hqn : (q : Int) < ((ln : Nat) : Int) := by omega
      clear hyq hcq hcb hcz
      go_wp2
      go_roundw
      case rel => exact ⟨q + 1, by omega, by go_num, by rw [HCS.out], by simp⟩
      case measure => simp [RowKit.intOf]; omega
     ·obtain rfl : q = ln := by omega
      have HCE := Lib.hid (show wk ++ catL (cm.lines.take q) = catL (rl ++ cm.lines) by rw [List.take_of_length_le (by rw [HLN.out]; exact Nat.le_refl _), catL_append, HWK.out])
      have hqn : ¬ (((q : Nat) : Int) < ((q : Nat) : Int)) := by omega
      rw [HCE.out]
      have Y7 := HYV.out.on HV7.out
      obtain ⟨c0, c1, c2, c3, c4⟩ := cells5 Y7
      have YG := (HY.out.on HBV.out).on HV7.out
      obtain ⟨z0, z1, z2, z3, z4⟩ := cells5 YG
      obtain ⟨g0, g1, g2, g3, g4⟩ := frozen5 YG
      have yl := YG.lt
      have HYG := Lib.hid YG
      clear Y7 YG
      go_wp2
      obtain ⟨q1, q2, q3⟩ := store5 HYG.out (.int .i64 cm.dk.net.sta) (.slice h5.A1 h5.n1 h5.c1) (.slice h5.A2 h5.n2 h5.c2) (.slice h5.A3 h5.n3 h5.c3) (.string cm.dk.log)
      obtain ⟨X, hX⟩ : ∃ y, (World.setCell (World.setCell (World.setCell (World.setCell (World.setCell w7 ⟨w2.heap.size, 0, none⟩ (.int .i64 cm.dk.net.sta)) ⟨w2.heap.size, 1, none⟩ (.slice h5.A1 h5.n1 h5.c1)) ⟨w2.heap.size, 2, none⟩ (.slice h5.A2 h5.n2 h5.c2)) ⟨w2.heap.size, 3, none⟩ (.slice h5.A3 h5.n3 h5.c3)) ⟨w2.heap.size, 4, none⟩ (.string cm.dk.log)) = y := ⟨_, rfl⟩
      rw [hX] at q1 q2 q3 ⊢
      have HQ1 := Lib.hid q1
      have HQ3 := Lib.hid q3
      clear q1 q2 q3 hX
      go_roundw
      case rel =>
       refine ⟨k + 1, h5, rh5, by omega, by go_num, by rw [HTX.out], by rw [HRT.out], by rw [HRT.out]; exact HQ1.out, ?_, fun b hb e => ?_, ?_⟩
       ·rw [HRT.out]
        exact (((HOV.out.on HV7.out).low.off (S := fun b => b = w2.heap.size) ⟨HQ3.out.os, HQ3.out.tape, HQ3.out.output, HQ3.out.size, fun k hk hn => HQ3.out.block k hk (by omega)⟩ (fun b hb e => by have := (HOV.out.inD_lt hb).1; have := HGW.out; omega)).low).wide hzr (Nat.le_refl _)
       ·have := (HOV.out.inD_lt hb).1; have := HGW.out; omega
       ·have h1 := bnext HB1V.out HV7.out (Nat.le_refl _)
        exact h1.trans (HQ3.out.below HG1.out h1.size)
      case measure => simp [RowKit.intOf]; omega
   exact AllReadyH.nil
  ·obtain rfl : nn = k := by omega
   have hkn : ¬ ((nn : Int) < nn) := by omega
   clear hy
   go_wp2_with fail
   have htks := HTS.out
   refine (implRunDesk_any tq m wr (by omega) (maxUpB HM0.out HLOW.out HB0.out) (tabUpB HT0.out HLOW.out HB0.out) (synUpB HV0.out HLOW.out HB0.out) (HC0.out.upB HLOW.out HB0.out) (Nat.lt_of_lt_of_le HLOW.out HB0.out.size)).mono ?_
   rintro e w9 ⟨rfl, b9⟩
   rw [HRUN.out (by simp)]
   have HB9 := Lib.hid (bnext HB0.out b9 (Nat.le_refl _))
   clear b9
   go_wp2
   go_ret
   exact ⟨by simp, HB9.out⟩
end Go.Proofs.YtjalgpioklcbfaaGreatDoor.lawConsole
