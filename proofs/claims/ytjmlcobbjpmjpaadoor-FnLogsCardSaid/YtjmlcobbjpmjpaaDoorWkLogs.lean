/- FnLogs: a log gives back its entries, step by step too, and what is cut off is lost from its line on; for every code. -/
import Derived.Test.YtjmlcobbjpmjpaaDoorLgcP
import Derived.Test.YtjmlcobbjpmjpaaDoorLogOf2
import Derived.Laws.StructEq
import Derived.Deep.QuietTactic
import Derived.BigQuiet
set_option linter.unusedVariables false
set_option linter.unusedSimpArgs false
namespace Go.Proofs.YtjmlcobbjpmjpaaDoor.lawLogs
open Go.RowKit Go.Proofs.YtjmlcobbjpmjpaaDoor

theorem a2At_any (A : Option Addr) (n c : Nat) (bs : List Int) (i B : Nat) (w : World) (h : Reads w B 1 A n (byts bs)) (hn : n ≤ 9223372036854775807) (hb : ∀ x ∈ bs, Byt x) (hi : i ≤ 1) :
    Calls Tryd.prog 22 #[.slice A n c, .int .i64 (i : Int), .int .i64 256] w fun e w' => ∃ x : Nat, e = .returned (.int .i64 (x : Int)) ∧ x ≤ 255 ∧ w = w' := by
  have HB := Lib.hid hb
  clear hb
  by_cases hlt : i < n
  · obtain ⟨x, b, off, he, rfl, hbl, c0⟩ := byt_at h hlt
    have hx := HB.out x (List.mem_of_getElem? he)
    unfold Byt at hx
    obtain ⟨y, rfl⟩ := Int.eq_ofNat_of_zero_le hx.1
    have hge : decide ((n : Int) ≤ (i : Int)) = false := by rw [decide_eq_false_iff_not]; omega
    have hi0 : (0 : Int) ≤ i := by omega
    have hi1 : (i : Int) < n := by omega
    clear he h
    go_enter Tryd.func22, Tryd.ntmps22
    go_wp2
    go_ret
    refine ⟨y, ?_, by omega, rfl⟩
    rw [Int.emod_eq_of_lt (by omega) (by omega)]
    rfl
  · have hge : decide ((n : Int) ≤ (i : Int)) = true := by rw [decide_eq_true_iff]; omega
    clear h
    go_enter Tryd.func22, Tryd.ntmps22
    go_wp2
    go_ret
    exact ⟨0, rfl, by omega, rfl⟩
set_option maxHeartbeats 4000000 in
set_option maxRecDepth 100000 in
theorem walk (A0 : Option Addr) (n0 c0 : Nat) (bs : List Int) (A1 : Option Addr) (n1 c1 : Nat) (bs1 : List Int) (w : World) (h0 : Reads w w.heap.size 1 A0 n0 (byts bs)) (hn0 : n0 ≤ 9223372036854775807) (hb0 : ∀ x ∈ bs, Byt x) (h1 : Reads w w.heap.size 1 A1 n1 (byts bs1)) (hn1 : n1 ≤ 9223372036854775807) (hb1 : ∀ x ∈ bs1, Byt x) (m : Int) (hm : w.cell? ⟨1, 0, none⟩ = some (.int .i64 m)) (ht : TabP w) (hv : SynP w) :
    Calls Tryd.prog 5 #[.slice A0 n0 c0, .slice A1 n1 c1] w fun e w' => e = .returned (.bool true) ∧ Below w.heap.size w w' := by
  have HT := Lib.hid ht
  have HM := Lib.hid hm
  have HV := Lib.hid hv
  clear hm hv ht
  have HB0 := Lib.hid hb0
  have HB1 := Lib.hid hb1
  have HR1 := Lib.hid h1
  clear hb0 hb1 h1
  go_enter Tryd.func5, Tryd.ntmps5
  go_wp2_with fail
  refine (a2Long_any A0 n0 c0 A1 n1 c1 _ hn0 hn1).mono ?_
  rintro e w' ⟨rfl, rfl⟩
  rcases hbig : (decide (3000 < n0) || decide (3000 < n1)) with _ | _
  · clear hbig
    go_wp2_with fail
    refine (a2Entries_any A0 n0 c0 bs _ h0 HB0.out hn0).mono ?_
    rintro e w1 ⟨l, Al, dl, rfl, hl, hok, hup, s1, b1⟩
    have z1 := b1.size
    have H1 := Lib.hid b1
    clear b1
    have HOK := Lib.hid hok
    have HUP := Lib.hid hup
    have hszn := logTo_size hok l.length
    have HLOG := Lib.hid (logOfF_ok (List.all_eq_true.2 hok) hup (by omega))
    have HC0 := Lib.hid (codeF_part hok hup hl (Nat.le_refl _))
    have HR0 := Lib.hid (logR_part hok hup (Nat.le_refl _))
    clear hok hup h0
    obtain ⟨s, hs⟩ : ∃ s, logTo l l.length = s := ⟨_, rfl⟩
    have HS := Lib.hid hs
    rw [hs] at hszn
    clear hs
    go_wp2_with fail
    refine (implLogOf_any _ _ _ l _ _ (s1.reads (Nat.le_refl _)) (Nat.le_refl _) (by omega) (fun x hx => okEn_small (HOK.out x hx)) (fun x hx => okEn_good (HOK.out x hx)) (tabUp HT.out H1.out)).mono ?_
    rw [HLOG.out, HS.out]
    rintro e w2 ⟨rfl, b2⟩
    have z2 := b2.size
    replace s1 := s1.on b2
    have H2 := Lib.hid (bnext H1.out b2 (Nat.le_refl _))
    clear b2
    go_wp2_with fail
    refine (implEntriesOf_any s m _ (by omega) (cell_on H2.out HM.out) (tabUp HT.out H2.out) (synUp HV.out H2.out)).mono ?_
    rw [show codeF s = 0 by rw [← HS.out]; exact HC0.out, show (codeR s).list = l by rw [codeR_ok (by rw [← HS.out]; exact HC0.out), ← HS.out, HR0.out]; simp]
    rintro e w3 ⟨A3, m3, d3, rfl, s3, b3⟩
    have z3 := b3.size
    replace s1 := s1.on b3
    have H3 := Lib.hid (bnext H2.out b3 (Nat.le_refl _))
    clear b3
    obtain rfl : m3 = l.length := by have := s3.len; rw [ens_length] at this; omega
    have R3 := s3.reads (Nat.le_refl _)
    have R1 := s1.reads (B := w3.heap.size) (by omega)
    clear s1 s3
    have HT0 := Lib.hid (show logTo l 0 = ⟨#[]⟩ from rfl)
    go_wp2
    go_loopw [10, 11] (fun st i wr => ∃ k : Nat, k ≤ l.length ∧ i = .int .i64 (k : Int) ∧ st = .string (logTo l k) ∧ Below w3.heap.size w3 wr) (fun _ i _ => l.length - (intOf i).toNat)
    case atStart => exact ⟨0, Nat.zero_le _, rfl, by rw [HT0.out], Below.refl _ _⟩
    case round =>
      obtain ⟨k, hk, rfl, rfl, hbel⟩ := hrel
      have HBl := Lib.hid hbel
      have zr := hbel.size
      clear hbel
      by_cases hlt : k < l.length
      · obtain ⟨x, b1, o1, hx1, rfl, hb1, c10, c11, c12⟩ := en_at (R1.on (Nat.le_refl _) HBl.out) hlt
        obtain ⟨x', b3, o3, hx3, rfl, hb3, c30, c31, c32⟩ := en_at (R3.on (Nat.le_refl _) HBl.out) hlt
        obtain rfl : x = x' := by rw [hx1] at hx3; injection hx3
        have hgd := okEn_good (HOK.out x (List.mem_of_getElem? hx1))
        have hsm := okEn_small (HOK.out x (List.mem_of_getElem? hx1))
        have HADD := Lib.hid (add_step HOK.out HUP.out hl hx1)
        have hpre := logTo_pre l (k := k + 1) (by omega)
        rw [HS.out] at hpre
        have hszk := logTo_size HOK.out k
        clear hx1 hx3
        have HH := Lib.hid (bnext H3.out HBl.out (Nat.le_refl _))
        generalize logTo l k = S at *
        generalize hN : logTo l (k + 1) = N at *
        have HN := Lib.hid hN
        clear hN
        have hk0 : (0 : Int) ≤ k := by omega
        have hk1 : (k : Int) < l.length := by omega
        obtain ⟨hpre1, hpre2⟩ := hpre
        go_wp2_with fail
        go_quiet (fail)
        go_wp2_with fail
        have HHq := Lib.hid (fun nq : Nat => below_drewN HH.out nq)
        have HBq := Lib.hid (fun nq : Nat => below_drewN HBl.out nq)
        refine (implAddEntry_any S x m _ (by omega) hgd hsm (cell_on (HHq.out _) HM.out) (tabUp HT.out (HHq.out _)) (synUp HV.out (HHq.out _))).mono ?_
        rw [HADD.out]
        rintro e w5 ⟨rfl, b5⟩
        have z5 := b5.size
        have HB5 := Lib.hid (bnext (HBq.out _) b5 (Nat.le_refl _))
        clear b5 c10 c11 c12 c30 c31 c32
        have hps : decide ((s.size : Int) < (N.size : Int)) = false := by rw [decide_eq_false_iff_not]; omega
        have hps2 : (N.size : Int) ≤ (s.size : Int) := by omega
        go_wp2
        go_roundw
        case rel => exact ⟨k + 1, by omega, by go_num, by rw [HN.out], HB5.out⟩
        case measure => simp [intOf]; omega
      · obtain rfl : k = l.length := by omega
        rw [HS.out]
        have HH := Lib.hid (bnext H3.out HBl.out (Nat.le_refl _))
        have hpre0 := HR1.out.on (Nat.le_refl _) HH.out
        go_wp2_with fail
        refine (a2At_any A1 n1 c1 bs1 0 _ _ hpre0 hn1 HB1.out (by omega)).mono ?_
        rintro e w' ⟨x1, rfl, hx1, rfl⟩
        go_wp2_with fail
        refine (a2At_any A1 n1 c1 bs1 1 _ _ hpre0 hn1 HB1.out (by omega)).mono ?_
        rintro e w' ⟨x2, rfl, hx2, rfl⟩
        clear hpre0
        obtain ⟨c, hc, hcs⟩ : ∃ c : Nat, min ((x1 : Int) + (x2 : Int)) (s.size : Int) = (c : Int) ∧ c ≤ s.size := by
          rcases Int.le_total ((x1 : Int) + (x2 : Int)) (s.size : Int) with h | h
          · exact ⟨x1 + x2, by rw [Int.min_eq_left h]; rfl, by omega⟩
          · exact ⟨s.size, by rw [Int.min_eq_right h], by omega⟩
        obtain ⟨j, F⟩ := cut_at HOK.out HUP.out hl (c := c) (by rw [HS.out]; exact hcs)
        have HF := Lib.hid F
        have hpre := logTo_pre l F.le
        have hrec := F.rec_
        have hchk := F.chk
        have hcode := F.code
        have hlist := F.list
        have hjc := F.size
        rw [HS.out] at hpre hrec hchk
        clear F
        generalize hK : logTo l j = K at *
        have HK := Lib.hid hK
        have HREC := Lib.hid hrec
        have HCHK := Lib.hid hchk
        have HCODE := Lib.hid hcode
        have HLIST := Lib.hid hlist
        have HPRE := Lib.hid hpre.2
        have hpre1 := hpre.1
        have hxs : (s.extract 0 c).size ≤ 1048576 := by rw [ByteArray.size_extract]; omega
        clear hK hrec hchk hcode hlist hpre
        go_wp2_with fail
        clear hc
        refine (implRecoverLog_any (s.extract 0 c) m _ hxs (cell_on HH.out HM.out) (tabUp HT.out HH.out) (synUp HV.out HH.out)).mono ?_
        rw [HREC.out]
        rintro e w5 ⟨rfl, b5⟩
        have z5 := b5.size
        have H5 := Lib.hid (bnext HH.out b5 (Nat.le_refl _))
        clear b5
        go_wp2_with fail
        refine (implCheckLog_any (s.extract 0 c) m _ hxs (cell_on H5.out HM.out) (tabUp HT.out H5.out) (synUp HV.out H5.out)).mono ?_
        rw [HCHK.out]
        rintro e w6 ⟨rfl, b6⟩
        have z6 := b6.size
        have H6 := Lib.hid (bnext H5.out b6 (Nat.le_refl _))
        clear b6
        have hq1 : decide ((c : Int) < (K.size : Int)) = false := by rw [decide_eq_false_iff_not]; omega
        have hq2 : (K.size : Int) ≤ (s.size : Int) := by omega
        have hq3 := HPRE.out
        go_wp2_with fail
        clear hq3
        refine (specEntriesOf_any K _ (by omega)).mono ?_
        rw [HCODE.out, HLIST.out]
        rintro e w7 ⟨A7, m7, d7, rfl, s7, b7⟩
        have H7 := Lib.hid (bnext H6.out b7 (Nat.le_refl _))
        have hm7 : m7 ≤ l.length := by have := s7.len; rw [ens_length, List.length_take] at this; omega
        clear b7 s7
        go_wp2
        go_ret
        exact ⟨ret_bool (by simp), H7.out⟩
  · clear hbig
    go_wp2
    go_ret
    exact ⟨rfl, Below.refl _ _⟩
end Go.Proofs.YtjmlcobbjpmjpaaDoor.lawLogs
