/- RunDesk, as the program does it. -/
import Derived.Test.YtjalgpioklcbfaaGreatDoorKExL
import Derived.Test.YtjalgpioklcbfaaGreatDoorMgConsoleAA
import Derived.Test.YtjalgpioklcbfaaGreatDoorMgConsoleAC
set_option linter.unusedVariables false
set_option linter.unusedSimpArgs false
namespace Go.Proofs.YtjalgpioklcbfaaGreatDoor
open Go.RowKit Go.Lib

theorem strs_oneC (l : List ByteArray) : ∀ u ∈ strs l, u.oneCell' = true := by
  intro u hu
  unfold strs at hu
  obtain ⟨x, _, rfl⟩ := List.mem_map.1 hu
  rfl
theorem strs_app (a b : List ByteArray) : strs a ++ strs b = strs (a ++ b) := by simp [strs]
theorem catL_bd {L : List ByteArray} (hb : ∀ x ∈ L, x.size ≤ 33554432) (hl : L.length ≤ 1048576) (k : Nat) : (catL (L.take k)).size ≤ 35184373137408 := by
  have h1 := catL_size 33554432 (ls := L.take k) fun x hx => hb x (List.mem_of_mem_take hx)
  have h2 : (L.take k).length ≤ 1048576 := by rw [List.length_take]; omega
  have h3 : (33554432 + 1) * (L.take k).length ≤ (33554432 + 1) * 1048576 := Nat.mul_le_mul_left _ h2
  omega
theorem linesT_len60 {s : ByteArray} (hs : s.size ≤ 1048575) : (outT s).length ≤ 1048576 ∧ ∀ x ∈ outT s, x.size ≤ 33554432 := by
  have hl : ∀ l ∈ linesT s, l.size ≤ 1048575 := fun l h => Nat.le_trans (linesT_sizes l h) hs
  unfold outT
  split
  · rename_i h
    have := runTo_ok hl (linesT s).length
    exact ⟨by omega, this.2.2⟩
  · have := runTo_ok hl 60
    refine ⟨by rw [List.length_append, List.length_singleton]; omega, fun x hx => ?_⟩
    rw [List.mem_append, List.mem_singleton] at hx
    rcases hx with hx | rfl
    · exact this.2.2 x hx
    · decide
set_option maxHeartbeats 4000000 in
set_option maxRecDepth 100000 in
theorem implRunDesk_any (s : ByteArray) (m : Int) (w : World) (hs : s.size ≤ 1048575) (hm : w.cell? ⟨1, 0, none⟩ = some (.int .i64 m)) (ht : TabP w) (hv : SynP w) (hc : CnP w) (hlow : 4 < w.heap.size) :
    Calls Tryz.prog 12 #[.string s] w fun e w' => e = .returned (.string (runT s)) ∧ Below w.heap.size w w' := by
  have HM0 := Lib.hid hm
  have HT0 := Lib.hid ht
  have HV0 := Lib.hid hv
  have HC0 := Lib.hid hc
  have HLOW := Lib.hid hlow
  have HSZ := Lib.hid (fun l (h : l ∈ linesT s) => Nat.le_trans (linesT_sizes l h) hs)
  have HOUT := Lib.hid (linesT_len60 hs)
  have HNL := Lib.hid (linesT_len s)
  have hlt0 : linesT s = if (splitS 10 s).getLast? = some ⟨#[]⟩ then (splitS 10 s).take ((splitS 10 s).length - 1) else splitS 10 s := rfl
  have HLT0 := Lib.hid hlt0
  clear hm ht hv hc hlow hlt0
  go_enter Tryz.func12, Tryz.ntmps12
  go_wp2_with fail
  refine (strSplit_any s 10 m w (by omega) HM0.out).mono ?_
  rintro e w1 ⟨LA, n, c, rfl, s1, b1⟩
  have hsl : (splitS 10 s).length = n := by have := s1.len; rw [strs_length] at this; omega
  have hn0 : 0 < n := by rw [← hsl]; exact List.length_pos_iff.2 (splitS_ne 10 s)
  have hnm : n ≤ 1048576 := by
    have h1 := splitS_len 10 s
    have h2 : s.data.toList.count 10 ≤ s.size := by rw [← data_len s]; exact List.count_le_length
    omega
  obtain ⟨sp, hsp⟩ : ∃ z, splitS 10 s = z := ⟨_, rfl⟩
  have HLT := Lib.hid (show linesT s = if sp.getLast? = some ⟨#[]⟩ then sp.take (sp.length - 1) else sp by rw [← hsp]; exact HLT0.out)
  rw [hsp] at s1 hsl
  have HSL := Lib.hid hsl
  obtain ⟨x, bl, ol, hx, rfl, hbl, k0⟩ := str_at (s1.reads (Nat.le_refl _)) (k := n - 1) (by omega)
  have HX := Lib.hid (show sp.getLast? = some x by rw [List.getLast?_eq_getElem?, hsl]; exact hx)
  have HCAP := Lib.hid (Sl.cap_ge s1)
  have HS1 := Lib.hid (s1.reads (Nat.le_refl _))
  have HB1 := Lib.hid b1
  have hcap : n ≤ c := HCAP.out
  clear s1 b1 hsp hsl hx
  obtain ⟨ls, hls⟩ : ∃ z, linesT s = z := ⟨_, rfl⟩
  have HLS := Lib.hid hls
  rw [hls] at HLT
  obtain ⟨nn, hnn⟩ : ∃ z, ls.length = z := ⟨_, rfl⟩
  have HNN := Lib.hid hnn
  clear hls hnn
  have hw1 : IntKind.i64.wrap ((n : Int) - 1) = ((n - 1 : Nat) : Int) := by
    unfold IntKind.wrap; simp [IntKind.bits, IntKind.signed]; omega
  have hi0 : (0 : Int) ≤ (n : Int) - 1 := by omega
  have hi1 : (n : Int) - 1 < n := by omega
  have hi2 : (0 : Int) ≤ ((n - 1 : Nat) : Int) ∧ ((n - 1 : Nat) : Int) < n := by omega
  have hi3 : (((n - 1 : Nat) : Int)).toNat = n - 1 := by omega
  have hi4 : ((n - 1 : Nat) : Int) ≤ c := by omega
  go_upto_if 24 with fail
  go_cut [3] (fun sv wx => (∃ cc, sv = .slice (some ⟨bl, ol, none⟩) nn cc) ∧ wx = w1)
  case first => as_aux_lemma =>
    rcases he : x.toList.isEmpty with _ | _
    · have hne : ¬ x = ⟨#[]⟩ := by rintro rfl; simp [ByteArray.toList_eq] at he
      have hnn : nn = n := by rw [← HNN.out, HLT.out, if_neg (by rw [HX.out]; exact fun h => hne (Option.some.inj h)), HSL.out]
      clear hne
      go_wp2
      go_meet
      exact ⟨⟨_, by rw [hnn]⟩, rfl⟩
    · have he2 : x = ⟨#[]⟩ := by
        have h0 : x.toList = [] := List.isEmpty_iff.1 he
        apply ByteArray.ext
        have : x.data.toList = [] := by rw [← ByteArray.toList_eq]; exact h0
        exact Array.toList_inj.1 (by simpa using this)
      have hnn : nn = n - 1 := by rw [← HNN.out, HLT.out, if_pos (by rw [HX.out, he2]), List.length_take, HSL.out]; omega
      clear he2
      go_wp2
      go_meet
      exact ⟨⟨_, by rw [hnn]⟩, rfl⟩
  obtain ⟨⟨cc, rfl⟩, hwc⟩ := hcut
  have hwc := hwc.symm
  subst hwc
  have hLR : Reads w1 w1.heap.size 1 (some ⟨bl, ol, none⟩) nn (strs ls) := by
    by_cases hg : sp.getLast? = some ⟨#[]⟩
    · have hl : ls = sp.take (sp.length - 1) := by rw [HLT.out, if_pos hg]
      have hr := HS1.out.sub (i := 0) (m := n - 1) (by omega)
      have hnn : nn = n - 1 := by rw [← HNN.out, hl, List.length_take, HSL.out]; omega
      rw [hnn, hl]
      have e : ((strs sp).drop 0).take (n - 1) = strs (sp.take (sp.length - 1)) := by rw [List.drop_zero, HSL.out]; simp [strs, List.map_take]
      rw [e] at hr
      exact hr
    · have hl : ls = sp := by rw [HLT.out, if_neg hg]
      have hnn : nn = n := by rw [← HNN.out, hl, HSL.out]
      rw [hnn, hl]
      exact HS1.out
  have HLR := Lib.hid hLR
  clear hLR k0
  have hnn9 : nn ≤ 1048576 := by have := HNL.out; rw [HLS.out, HNN.out] at this; omega
  go_wp2_with fail
  refine (implNewDesk_any m w1 (cell_on HB1.out HM0.out) (tabUp HT0.out HB1.out) (synUp HV0.out HB1.out)).mono ?_
  rintro e w2 ⟨h0, rfl, o2, b2⟩
  go_wp2_with fail
  obtain ⟨u, hu, zu, k1, k2, bu⟩ := two_al w2 #[] #[.int .i64 3, .slice h0.A1 h0.n1 h0.c1, .slice h0.A2 h0.n2 h0.c2, .slice h0.A3 h0.n3 h0.c3, .string ⟨#[]⟩] 9 32
  rw [← hu]
  have sl0 : Sl u w2.heap.size (w2.heap.size + 1) 9 1 (some ⟨w2.heap.size, 0, none⟩) 0 0 [] := Sl.of_blk (xs := []) k1 (Nat.le_refl _) (Nat.lt_succ_self _) rfl (Nat.zero_le _)
  have hzu := b2.size
  have HG := Lib.hid (show w1.heap.size ≤ w2.heap.size from hzu)
  have HSL0 := Lib.hid (sl0.wide (lo' := w1.heap.size) (hi' := u.heap.size) hzu (by omega))
  have HO0 := Lib.hid ((o2.on bu).wide (Nat.le_refl _) (hi' := u.heap.size) bu.size)
  have HY0 := Lib.hid k2
  have HBU := Lib.hid (bnext b2 bu (Nat.le_refl _))
  have HNE0 := Lib.hid (show ∀ b, inB (some (⟨w2.heap.size, 0, none⟩ : Addr)) b → ¬ inD h0 [] b from fun b hb hd => by have h1 := inB_some hb; have h2 := (o2.inD_lt hd).2; omega)
  have HNG0 := Lib.hid (show ∀ b, inD h0 [] b → b ≠ w2.heap.size + 1 from fun b hd => by have h2 := (o2.inD_lt hd).2; omega)
  have HZU := Lib.hid zu
  clear o2 b2 bu hu k1 k2 sl0 zu hzu
  go_loopw [6, 32] (fun o i wr => ∃ (k : Nat) (A' : Option Addr) (d' : Nat) (hd : DkH) (rh : List RnH), k ≤ nn ∧ k ≤ 60 ∧ i = .int .i64 (k : Int) ∧ o = .slice A' (runTo ls k).2.length d' ∧ Blk wr (w2.heap.size + 1) 32 #[.int .i64 (runTo ls k).1.net.sta, .slice hd.A1 hd.n1 hd.c1, .slice hd.A2 hd.n2 hd.c2, .slice hd.A3 hd.n3 hd.c3, .string (runTo ls k).1.log] ∧ OwnD wr w1.heap.size wr.heap.size hd (runTo ls k).1 rh ∧ Sl wr w1.heap.size wr.heap.size 9 1 A' (runTo ls k).2.length d' (strs (runTo ls k).2) ∧ (∀ b, inB A' b → ¬ inD hd rh b) ∧ (∀ b, inB A' b → b ≠ w2.heap.size + 1) ∧ (∀ b, inD hd rh b → b ≠ w2.heap.size + 1) ∧ Below w1.heap.size w1 wr) (fun _ i _ => nn - (RowKit.intOf i).toNat)
  case atStart => exact ⟨0, _, _, h0, [], Nat.zero_le _, Nat.zero_le _, rfl, rfl, HY0.out, HO0.out, HSL0.out, HNE0.out, fun b hb => by have := inB_some hb; omega, HNG0.out, HBU.out⟩
  case round =>
    obtain ⟨k, A', d', hd, rh, hk, hk60, rfl, rfl, hy, ho, hsl, hne, hng, hdg, hbel⟩ := hrel
    have HSZS := Lib.hid (runTo_ok (ls := ls) (fun l hl => HSZ.out l (by rw [HLS.out]; exact hl)) k)
    have HBAD := Lib.hid (fun (l : ByteArray) (hl : ls[k]? = some l) (hc : (cmdF (runTo ls k).1 l).code ≠ 0) => runTo_bad hl hc)
    have HGOOD := Lib.hid (fun (l : ByteArray) (hl : ls[k]? = some l) (hc : (cmdF (runTo ls k).1 l).code = 0) => runTo_good hl hc)
    have HOT1 := Lib.hid (show nn = k → outT s = (runTo ls k).2 from fun h => by unfold outT; rw [HLS.out, HNN.out, if_pos (by omega), h])
    have HOT2 := Lib.hid (show k = 60 → k < nn → outT s = (runTo ls k).2 ++ [errFull] from fun h h' => by unfold outT; rw [HLS.out, HNN.out, if_neg (by omega), h])
    obtain ⟨st, hst⟩ : ∃ z, runTo ls k = z := ⟨_, rfl⟩
    rw [hst] at HSZS HBAD HGOOD HOT1 HOT2 hy ho hsl ⊢
    obtain ⟨dk, rl⟩ := st
    simp only at HSZS HBAD HGOOD HOT1 HOT2 hy ho hsl ⊢
    have HY := Lib.hid hy
    have HO := Lib.hid ho
    have HSL1 := Lib.hid hsl
    have HNE := Lib.hid hne
    have HNG := Lib.hid hng
    have HDG := Lib.hid hdg
    have HBR := Lib.hid hbel
    have HB0 := Lib.hid (bnext HB1.out hbel (Nat.le_refl _))
    have hzr : w1.heap.size ≤ wr.heap.size := hbel.size
    have hrl : rl.length ≤ 240120 := by have := HSZS.out.2.1; omega
    clear ho hsl hne hng hdg hbel hst
    have hki : (0 : Int) ≤ k := by omega
    by_cases hlt : k < nn
    · have hkn : (k : Int) < nn := by omega
      obtain ⟨l, bb, oo, hl, hAe, hbb, q0⟩ := str_at (HLR.out.on (Nat.le_refl _) HBR.out) hlt
      injection hAe with hAe
      injection hAe with hAb hAo
      subst hAb
      subst hAo
      have hlsz : l.size ≤ 1048575 := HSZ.out l (by rw [HLS.out]; exact List.mem_of_getElem? hl)
      have hdok := HSZS.out.1
      have HCM := Lib.hid (cmdF_ok hdok l hlsz)
      by_cases h60 : k = 60
      · have hk6 : ((k : Int) == 60) = true := by rw [beq_iff_eq]; omega
        have HOT := Lib.hid (HOT2.out h60 hlt)
        clear h60 hl hy
        go_wp2_with (at_builtin; refine wpList_oneF rfl _ _ 24 rfl 9 _ 1 16 Tryz.underlying24 info_str9 rfl (by decide) (by decide) HSL1.out hzr rfl [.string errFull] wr.heap.size rfl rfl rfl (fun u hu => by simp at hu; subst hu; rfl) (by omega) ?_; intro A9 d9 w9 hs9 b9 z9 f9 k9; have HS9 := Lib.hid hs9; have HB9 := Lib.hid b9; clear hs9 b9 z9 f9 k9)
        have HLL := Lib.hid (show (outT s).length = rl.length + 1 by rw [HOT.out]; simp)
        have HR9 := Lib.hid (show Reads w9 w9.heap.size 1 A9 (rl.length + 1) (strs (outT s)) by
          have h := HS9.out.reads (Nat.le_refl _)
          rw [HOT.out, ← strs_app]; exact h)
        have HBF := Lib.hid (show Below w.heap.size w w9 from HB0.out.trans (HB9.out.mono HB1.out.size))
        go_wp2_with fail
        go_loop [12, 61] (fun a i => ∃ q : Nat, q ≤ rl.length + 1 ∧ i = .int .i64 (q : Int) ∧ a = .string (catL ((outT s).take q))) (fun _ i => rl.length + 1 - (RowKit.intOf i).toNat)
        case atStart => exact ⟨0, Nat.zero_le _, rfl, by rw [List.take_zero]; rfl⟩
        case round =>
          obtain ⟨q, hq, rfl, rfl⟩ := hrel
          have hqi : (0 : Int) ≤ q := by omega
          by_cases hlq : q < rl.length + 1
          · obtain ⟨y, bY, oY, hyq, rfl, hbY, p1⟩ := str_at HR9.out hlq
            have hys := HOUT.out.2 y (List.mem_of_getElem? hyq)
            have hcb := catL_bd HOUT.out.2 HOUT.out.1 q
            have HCS := Lib.hid (catL_step hyq)
            obtain ⟨cq, hcq⟩ : ∃ z, catL ((outT s).take q) = z := ⟨_, rfl⟩
            rw [hcq] at hcb HCS ⊢
            have ov1 : ¬ (9223372036854775807 < y.size + 1) := by omega
            have ov2 : ¬ (9223372036854775807 < cq.size + (y.size + 1)) := by omega
            have hqn : (q : Int) < ((rl.length + 1 : Nat) : Int) := by omega
            clear hyq hcq
            go_wp2
            go_round
            case rel => exact ⟨q + 1, by omega, by go_num, by rw [HCS.out]⟩
            case measure => simp [RowKit.intOf]; omega
          · obtain rfl : q = rl.length + 1 := by omega
            have HE := Lib.hid (show catL ((outT s).take (rl.length + 1)) = runT s by rw [List.take_of_length_le (by rw [HLL.out]; exact Nat.le_refl _)]; rfl)
            have hqn : ¬ (((rl.length + 1 : Nat) : Int) < ((rl.length + 1 : Nat) : Int)) := by omega
            rw [HE.out]
            go_wp2
            go_ret
            exact ⟨rfl, HBF.out⟩
      have hk6 : ((k : Int) == 60) = false := by rw [beq_eq_false_iff_ne]; omega
      have hk61 : k + 1 ≤ 60 := by omega
      obtain ⟨c0, c1, c2, c3, c4⟩ := cells5 hy
      clear hy h60
      go_wp2_with fail
      refine (deskCommand_any (h := hd) (d := dk) (line := l) (m := m) (B := wr.heap.size) (w := wr) (HO.out.reads (Nat.le_refl _)) (okDk_S HO.out hdok) (Nat.le_refl _) (Sl.plainA HO.out.tubes) (Sl.plainA HO.out.times) hlsz (maxUpB HM0.out HLOW.out HB0.out) (tabUpB HT0.out HLOW.out HB0.out) (synUpB HV0.out HLOW.out HB0.out) (HC0.out.upB HLOW.out HB0.out) (Nat.lt_of_lt_of_le HLOW.out HB0.out.size)).mono ?_
      rintro e w5 ⟨h5, rh5, LA, ln, lc, rfl, co⟩
      simp only [dkv]
      have hbad := HBAD.out l hl
      have hgood := HGOOD.out l hl
      obtain ⟨cm, hcm⟩ : ∃ z, cmdF dk l = z := ⟨_, rfl⟩
      rw [hcm] at co HCM hbad hgood ⊢
      have HCO := Lib.hid co
      have HBD := Lib.hid hbad
      have HGD := Lib.hid hgood
      clear hcm co hbad hgood hl c0 c1 c2 c3 c4 q0
      go_upto_region 12 with fail
      obtain ⟨u5, hu5⟩ : ∃ y, w5.alloc (.cells #[.int .i64 cm.dk.net.sta, .slice h5.A1 h5.n1 h5.c1, .slice h5.A2 h5.n2 h5.c2, .slice h5.A3 h5.n3 h5.c3, .string cm.dk.log] 32) = y := ⟨_, rfl⟩
      have y5 : Blk u5 w5.heap.size 32 #[.int .i64 cm.dk.net.sta, .slice h5.A1 h5.n1 h5.c1, .slice h5.A2 h5.n2 h5.c2, .slice h5.A3 h5.n3 h5.c3, .string cm.dk.log] := by rw [← hu5]; exact Blk.new _ _ _
      have b5 : Below w5.heap.size w5 u5 := by rw [← hu5]; exact (Below.refl _ _).alloc (Nat.le_refl _) _
      rw [hu5]
      have HY5 := Lib.hid y5
      have HB5 := Lib.hid (bnext HCO.out.bel b5 (Nat.le_refl _))
      have HSL5 := Lib.hid (HSL1.out.on HB5.out).low
      have HBW5 := Lib.hid (HBR.out.trans (HB5.out.mono hzr))
      have hz5 : w1.heap.size ≤ u5.heap.size := HBW5.out.size
      have HW5 := Lib.hid (show wr.heap.size ≤ w5.heap.size from HCO.out.bel.size)
      have HB55 := Lib.hid b5
      have HYG := Lib.hid (HY.out.on HB5.out)
      have HGW := Lib.hid (show w2.heap.size + 1 < wr.heap.size from HY.out.lt)
      have HAW := Lib.hid (show ∀ b, inB A' b → b < wr.heap.size from fun b hb => (HSL1.out.inB_lt hb).2)
      clear hu5 y5 b5
      rcases HCM.out.1 with hc0 | hc7
      rotate_left
      · have HRT := Lib.hid (HBD.out (by rw [hc7]; decide))
        rw [hc7]
        go_wp2_with (at_builtin; refine wpList_oneF rfl _ _ 24 rfl 9 _ 1 16 Tryz.underlying24 info_str9 rfl (by decide) (by decide) HSL5.out hz5 rfl [.string ⟨#[63]⟩] u5.heap.size rfl rfl rfl (fun u hu => by simp at hu; subst hu; rfl) (by omega) ?_; intro A9 d9 w9 hs9 b9 z9 f9 k9; have HS9 := Lib.hid hs9; have HB9 := Lib.hid b9; have HF9 := Lib.hid f9; have HK9 := Lib.hid k9; clear hs9 b9 z9 f9 k9)
        go_roundw
        case rel =>
          refine ⟨k + 1, A9, d9, hd, rh, by omega, by omega, by go_num, by rw [HRT.out]; simp, ?_, ?_, ?_, fun b hb hb2 => ?_, fun b hb e => ?_, HDG.out, HBW5.out.trans HB9.out⟩
          · rw [HRT.out]; exact HYG.out.off (off_of HB9.out HF9.out) (fun h => HNG.out _ h rfl)
          · rw [HRT.out]; exact ((HO.out.on HB5.out).low.off (off_of HB9.out HF9.out) (fun b hb hc => HNE.out b hc hb)).low
          · rw [HRT.out]; show Sl _ _ _ _ _ _ (rl ++ [(⟨#[63]⟩ : ByteArray)]).length _ (strs (rl ++ [(⟨#[63]⟩ : ByteArray)])); rw [← strs_app, List.length_append]; exact HS9.out
          · obtain ⟨ad, e1, e2⟩ := hb
            exact HK9.out b (by have := (HO.out.inD_lt hb2).2; have := HB5.out.size; omega) (fun ad' e' hh' => HNE.out b ⟨ad', e', hh'⟩ hb2) ad e1 e2
          · subst e
            obtain ⟨ad, e1, e2⟩ := hb
            exact HK9.out _ (by have := HGW.out; have := HB5.out.size; omega) (fun ad' e' hh' => HNG.out _ ⟨ad', e', hh'⟩ rfl) ad e1 e2
        case measure => simp [RowKit.intOf]; omega
      have HRT := Lib.hid (HGD.out hc0)
      have hln := HCM.out.2.1 hc0
      have hsm := HCM.out.2.2
      have hll : cm.lines.length = ln := by have := HCO.out.row.len; rw [strs_length] at this; omega
      have hl0 : 0 < ln := by rw [← hll]; exact List.length_pos_iff.2 hln.2
      have hl2 : ln ≤ 4002 := by rw [← hll]; exact hsm.1
      obtain ⟨bq, oq, rfl, hbq, hcq⟩ := ((HCO.out.row.reads (Nat.le_refl _)).on (Nat.le_refl _) HB55.out).at_ hl0
      have HCQ := Lib.hid hcq
      have HLLN := Lib.hid hll
      have HA9 := Lib.hid (show ∀ ad, A' = some ad → ad.block ≠ w5.heap.size from fun ad e h => by have := HAW.out _ ⟨ad, e, h⟩; have := HW5.out; omega)
      rw [hc0]
      clear hc0 hln hsm hcq hll hbq
      go_upto_region 14 with fail
      refine wp_region_held_drew (S := (fun V => Blk V w5.heap.size 32 #[.int .i64 cm.dk.net.sta, .slice h5.A1 h5.n1 h5.c1, .slice h5.A2 h5.n2 h5.c2, .slice h5.A3 h5.n3 h5.c3, .string cm.dk.log])) (by kernel_rfl) ?_ (fun hHeld => ?_)
      · exact HY5.out.drew
      refine tk 0 rfl ?_ ?_ ?_
      rotate_left
      · intro w hSw; (try dsimp only at hSw); (have l0 := hSw.cellAt 0 (by simp)); (have l1 := hSw.cellAt 1 (by simp)); (have l2 := hSw.cellAt 2 (by simp)); (have l3 := hSw.cellAt 3 (by simp)); (have l4 := hSw.cellAt 4 (by simp)); (simp only [List.getElem_toArray, List.getElem_cons_zero, List.getElem_cons_succ] at l0 l1 l2 l3 l4); go_simp; try with_reducible rfl
      try simp only [Act.put, ly]
      refine tk 1 rfl ?_ ?_ ?_
      rotate_left
      · intro w _; go_simp; try with_reducible rfl
      try simp only [Act.put, ly]
      refine tk 2 rfl ?_ ?_ ?_
      rotate_left
      · intro w _; go_simp; try with_reducible rfl
      try simp only [Act.put, ly]
      refine wpAnyH_ready (rs := [3]) (by kernel_rfl) (by simp) ?_
      refine AllReadyH.cons rfl (fun K hK => ?_) AllReadyH.nil
      refine step_manF rfl _ _ 24 rfl 9 _ 1 16 Tryz.underlying24 info_str9 rfl (by decide) (by decide) HSL5.out.drew hz5 rfl bq oq ln lc (strs cm.lines) rfl (by rw [strs_length, HLLN.out, Nat.mul_one]) (fun j u hu => HCQ.out j u hu) (strs_oneC _) hl0 (by omega) ?_
      intro A9 d9 w9 hs9 b9 f9 k9
      refine hK.out _ _ ?_ (fun hNew => ?_)
      · exact Blk.off (show Blk _ _ _ _ from hHeld) (off_of b9 f9) (fun ⟨ad, e, h⟩ => HA9.out ad e h)
      clear hK K hHeld
      have hHeld := hNew
      clear hNew
      try simp only [Act.put, ly]
      refine wpAnyH_ready (rs := [4]) (by kernel_rfl) (by simp) ?_
      refine AllReadyH.cons rfl (fun K hK => ?_) AllReadyH.nil
      have YG9 := HYG.out.drew.off (off_of b9 f9) (fun h => HNG.out _ h rfl)
      obtain ⟨z0, z1, z2, z3, z4⟩ := cells5 YG9
      obtain ⟨g0, g1, g2, g3, g4⟩ := frozen5 YG9
      have yl := YG9.lt
      go_simp
      refine hK.out _ _ ?_ (fun hNew => ?_)
      · obtain ⟨q1, q2, q3⟩ := store5 YG9 (.int .i64 cm.dk.net.sta) (.slice h5.A1 h5.n1 h5.c1) (.slice h5.A2 h5.n2 h5.c2) (.slice h5.A3 h5.n3 h5.c3) (.string cm.dk.log)
        exact Blk.apart (show Blk _ _ _ _ from hHeld) q3 (.inr (by have := HGW.out; have := HW5.out; omega))
      clear hK K hHeld
      have hHeld := hNew
      clear hNew
      try simp only [Act.put, ly]
      refine tk 5 rfl ?_ ?_ ?_
      rotate_left
      · intro w _; go_simp; try with_reducible rfl
      try simp only [Act.put, ly]
      refine wpAnyH_done (by kernel_rfl) ?_ _
      obtain ⟨q1, q2, q3⟩ := store5 YG9 (.int .i64 cm.dk.net.sta) (.slice h5.A1 h5.n1 h5.c1) (.slice h5.A2 h5.n2 h5.c2) (.slice h5.A3 h5.n3 h5.c3) (.string cm.dk.log)
      obtain ⟨V, hV⟩ : ∃ y, (World.setCell (World.setCell (World.setCell (World.setCell (World.setCell w9 ⟨w2.heap.size + 1, 0, none⟩ (.int .i64 cm.dk.net.sta)) ⟨w2.heap.size + 1, 1, none⟩ (.slice h5.A1 h5.n1 h5.c1)) ⟨w2.heap.size + 1, 2, none⟩ (.slice h5.A2 h5.n2 h5.c2)) ⟨w2.heap.size + 1, 3, none⟩ (.slice h5.A3 h5.n3 h5.c3)) ⟨w2.heap.size + 1, 4, none⟩ (.string cm.dk.log)) = y := ⟨_, rfl⟩
      rw [hV] at q1 q2 q3 ⊢
      have HS9 := Lib.hid hs9
      have HB9 := Lib.hid b9
      have HF9 := Lib.hid f9
      have HK9 := Lib.hid k9
      have HQ1 := Lib.hid q1
      have HQ3 := Lib.hid (show Off (fun b => b = w2.heap.size + 1) w9 V from ⟨q3.os, q3.tape, q3.output, q3.size, fun k hk hn => q3.block k hk (by omega)⟩)
      have HQZ := Lib.hid q3.size
      have hzd : u5.drew.heap.size = u5.heap.size := rfl
      clear hHeld hs9 b9 f9 k9 q1 q2 q3 YG9 hV
      go_wp2
      go_roundw
      case rel =>
        refine ⟨k + 1, A9, d9, h5, rh5, by omega, by omega, by go_num, by rw [HRT.out]; show _ = Value.slice A9 (rl ++ cm.lines).length d9; rw [List.length_append, HLLN.out], by rw [HRT.out]; exact HQ1.out, ?_, ?_, fun b hb hb2 => ?_, fun b hb e => ?_, fun b hb e => ?_, ?_⟩
        · rw [HRT.out]
          have h1 := ((HCO.out.own.on HB55.out).low.on (w' := u5.drew) (Below.refl _ _).drew)
          have h2 := (h1.off (off_of HB9.out HF9.out) (fun b hb hc => by have := HAW.out b hc; have := (HCO.out.own.inD_lt hb).1; omega)).low
          have h3 := (h2.off HQ3.out (fun b hb e => by have := (HCO.out.own.inD_lt hb).1; have := HGW.out; omega)).low
          exact h3.wide hzr (Nat.le_refl _)
        · rw [HRT.out]
          show Sl _ _ _ _ _ _ (rl ++ cm.lines).length _ (strs (rl ++ cm.lines))
          rw [← strs_app, List.length_append, HLLN.out]
          refine (HS9.out.off HQ3.out (fun b hb e => ?_)).low
          subst e
          obtain ⟨ad, e1, e2⟩ := hb
          exact HK9.out _ (by have := HGW.out; have := HB5.out.size; show _ < u5.heap.size; omega) (fun ad' e' hh' => HNG.out _ ⟨ad', e', hh'⟩ rfl) ad e1 e2
        · obtain ⟨ad, e1, e2⟩ := hb
          exact HK9.out b (by have := (HCO.out.own.inD_lt hb2).2; have := HB55.out.size; show b < u5.heap.size; omega) (fun ad' e' hh' => by have := HAW.out b ⟨ad', e', hh'⟩; have := (HCO.out.own.inD_lt hb2).1; omega) ad e1 e2
        · subst e
          obtain ⟨ad, e1, e2⟩ := hb
          exact HK9.out _ (by have := HGW.out; have := HB5.out.size; show _ < u5.heap.size; omega) (fun ad' e' hh' => HNG.out _ ⟨ad', e', hh'⟩ rfl) ad e1 e2
        · subst e
          have := (HCO.out.own.inD_lt hb).1; have := HGW.out; omega
        · have h1 : Below w1.heap.size w1 w9 := HBW5.out.trans ((Below.refl _ _).drew.trans HB9.out)
          exact h1.trans (HQ3.out.below (fun b hb => by have := HG.out; omega) h1.size)
      case measure => simp [RowKit.intOf]; omega
    · obtain rfl : nn = k := by omega
      have hkn : ¬ ((nn : Int) < nn) := by omega
      have HOT := Lib.hid (HOT1.out rfl)
      clear hy
      have HR9 := Lib.hid (show Reads wr wr.heap.size 1 A' rl.length (strs (outT s)) by
        rw [HOT.out]; exact HSL1.out.reads (Nat.le_refl _))
      have HLL := Lib.hid (show (outT s).length = rl.length by rw [HOT.out])
      have HBF := Lib.hid (show Below w.heap.size w wr from HB0.out)
      go_wp2_with fail
      go_loop [12, 61] (fun a i => ∃ q : Nat, q ≤ rl.length ∧ i = .int .i64 (q : Int) ∧ a = .string (catL ((outT s).take q))) (fun _ i => rl.length - (RowKit.intOf i).toNat)
      case atStart => exact ⟨0, Nat.zero_le _, rfl, by rw [List.take_zero]; rfl⟩
      case round =>
        obtain ⟨q, hq, rfl, rfl⟩ := hrel
        have hqi : (0 : Int) ≤ q := by omega
        by_cases hlq : q < rl.length
        · obtain ⟨y, bY, oY, hyq, rfl, hbY, p1⟩ := str_at HR9.out hlq
          have hys := HOUT.out.2 y (List.mem_of_getElem? hyq)
          have hcb := catL_bd HOUT.out.2 HOUT.out.1 q
          have HCS := Lib.hid (catL_step hyq)
          obtain ⟨cq, hcq⟩ : ∃ z, catL ((outT s).take q) = z := ⟨_, rfl⟩
          rw [hcq] at hcb HCS ⊢
          have ov1 : ¬ (9223372036854775807 < y.size + 1) := by omega
          have ov2 : ¬ (9223372036854775807 < cq.size + (y.size + 1)) := by omega
          have hqn : (q : Int) < ((rl.length : Nat) : Int) := by omega
          clear hyq hcq
          go_wp2
          go_round
          case rel => exact ⟨q + 1, by omega, by go_num, by rw [HCS.out]⟩
          case measure => simp [RowKit.intOf]; omega
        · obtain rfl : q = rl.length := by omega
          have HE := Lib.hid (show catL ((outT s).take (rl.length)) = runT s by rw [List.take_of_length_le (by rw [HLL.out]; exact Nat.le_refl _)]; rfl)
          have hqn : ¬ (((rl.length : Nat) : Int) < ((rl.length : Nat) : Int)) := by omega
          rw [HE.out]
          go_wp2
          go_ret
          exact ⟨rfl, HBF.out⟩
end Go.Proofs.YtjalgpioklcbfaaGreatDoor
