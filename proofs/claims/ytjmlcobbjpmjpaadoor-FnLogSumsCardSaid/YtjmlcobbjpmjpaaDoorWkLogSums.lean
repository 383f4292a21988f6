/- FnLogSums: over all names that a log tells, the sums are the sums of their values, and together those of all entries; for every code. -/
import Derived.Test.YtjmlcobbjpmjpaaDoorLgsP
import Derived.Test.YtjmlcobbjpmjpaaDoorLogOf2
import Derived.Test.YtjmlcobbjpmjpaaDoorStrS
set_option linter.unusedVariables false
set_option linter.unusedSimpArgs false
namespace Go.Proofs.YtjmlcobbjpmjpaaDoor.lawLogSums
open Go.RowKit Go.Proofs.YtjmlcobbjpmjpaaDoor

set_option maxHeartbeats 4000000 in
set_option maxRecDepth 100000 in
theorem walk (A0 : Option Addr) (n0 c0 : Nat) (bs : List Int) (w : World) (h0 : Reads w w.heap.size 1 A0 n0 (byts bs)) (hn0 : n0 ≤ 9223372036854775807) (hb0 : ∀ x ∈ bs, Byt x) (m : Int) (hm : w.cell? ⟨1, 0, none⟩ = some (.int .i64 m)) (ht : TabP w) (hv : SynP w) :
    Calls Tryd.prog 4 #[.slice A0 n0 c0] w fun e w' => e = .returned (.bool true) ∧ Below w.heap.size w w' := by
  have HT := Lib.hid ht
  have HM := Lib.hid hm
  have HV := Lib.hid hv
  clear hm hv ht
  have HB0 := Lib.hid hb0
  clear hb0
  go_enter Tryd.func4, Tryd.ntmps4
  go_wp2_with fail
  refine (a2Long_any A0 n0 c0 none 0 0 _ hn0 (by omega)).mono ?_
  rintro e w' ⟨rfl, rfl⟩
  by_cases hbig : 3000 < n0
  · rw [decide_eq_true hbig]
    go_wp2
    go_ret
    exact ⟨rfl, Below.refl _ _⟩
  · rw [decide_eq_false hbig, show decide (3000 < 0) = false from rfl]
    go_wp2_with fail
    refine (a2Entries_any A0 n0 c0 bs _ h0 HB0.out hn0).mono ?_
    rintro e w1 ⟨l, A1, d1, rfl, hl, hok, hup, s1, b1⟩
    have z1 := b1.size
    have H1 := Lib.hid b1
    clear b1
    obtain ⟨s, F⟩ := few_log hl hok hup
    have HF := Lib.hid F
    have HOK := Lib.hid hok
    have hsz := F.size
    clear hok hup F h0
    go_wp2_with fail
    refine (specLogOf_any _ _ _ l _ _ (s1.reads (Nat.le_refl _)) (Nat.le_refl _) (by omega) (fun x hx => okEn_small (HOK.out x hx)) (fun x hx => okEn_good (HOK.out x hx))).mono ?_
    rw [HF.out.log]
    rintro e w2 ⟨rfl, b2⟩
    have z2 := b2.size
    replace s1 := s1.on b2
    have H2 := Lib.hid (bnext H1.out b2 (Nat.le_refl _))
    clear b2
    go_wp2_with fail
    refine (implNamesIn_any s m _ (by omega) (cell_on H2.out HM.out) (tabUp HT.out H2.out) (synUp HV.out H2.out)).mono ?_
    rw [HF.out.code, HF.out.names]
    rintro e w3 ⟨A3, m3, d3, rfl, s3, b3⟩
    have z3 := b3.size
    replace s1 := s1.on b3
    have H3 := Lib.hid (bnext H2.out b3 (Nat.le_refl _))
    clear b3
    have hns : (namesL l l.length).length = m3 := by have := s3.len; rw [strs_length] at this; omega
    have hm7 : m3 ≤ 7 := by have := namesL_len l l.length; omega
    obtain ⟨b, e1, e2⟩ : ∃ b : Bool, ((m3 : Int) == 0) = b ∧ ((l.length : Int) == 0) = b := by
      rcases Nat.eq_zero_or_pos l.length with h | h
      · refine ⟨true, ?_, ?_⟩
        · have : m3 = 0 := by have := namesL_len l l.length; omega
          rw [this]; rfl
        · rw [h]; rfl
      · refine ⟨false, ?_, ?_⟩
        · have h1 := cntW_one (l := l) (List.getElem?_eq_getElem h)
          have h2 : 0 < m3 := by
            rcases Nat.eq_zero_or_pos m3 with h3 | h3
            · rw [List.length_eq_zero_iff.1 (hns.trans h3)] at h1; simp [cntW] at h1
            · exact h3
          rw [beq_eq_false_iff_ne]; omega
        · rw [beq_eq_false_iff_ne]; omega
    have HNS := Lib.hid hns
    clear hns
    have R3 := s3.reads (Nat.le_refl _)
    have R1 := s1.reads (B := w3.heap.size) (by omega)
    clear s1 s3
    go_wp2
    clear e1 e2
    generalize hgn : namesL l l.length = ns at *
    have HGN := Lib.hid hgn
    clear hgn
    have HT0 := Lib.hid (show sumNL l l.length (ns.take 0) = 0 ∧ cntNL l l.length (ns.take 0) = 0 from ⟨by simp [sumNL], by simp [cntNL]⟩)
    go_loopw [8, 9, 10] (fun sm mn i wr => ∃ k : Nat, k ≤ m3 ∧ i = .int .i64 (k : Int) ∧ sm = .int .i64 (sumNL l l.length (ns.take k)) ∧ mn = .int .i64 ((cntNL l l.length (ns.take k) : Nat) : Int) ∧ Below w3.heap.size w3 wr) (fun _ _ i _ => m3 - (intOf i).toNat)
    case atStart => exact ⟨0, Nat.zero_le _, rfl, by rw [HT0.out.1], by rw [HT0.out.2]; rfl, Below.refl _ _⟩
    case round =>
      obtain ⟨k, hk, rfl, rfl, rfl, hbel⟩ := hrel
      have HBl := Lib.hid hbel
      have zr := hbel.size
      clear hbel
      by_cases hlt : k < m3
      · obtain ⟨t, tb, toff, het, rfl, htb, ct⟩ := str_at (R3.on (Nat.le_refl _) HBl.out) hlt
        obtain ⟨n1, n2, n3, n4, n5, n6, n7⟩ := HF.out.name (by rw [HGN.out]; exact List.mem_of_getElem? het)
        have HQ := Lib.hid (sumNL_take l l.length het)
        have hbd := sumNL_bd HOK.out hl (ns.take k)
        have htl : (ns.take k).length ≤ 7 := by rw [List.length_take]; omega
        have hbd2 := sumTo_bd (t := t) (a := 0) (b := 100000) HOK.out l.length
        have HN2 := Lib.hid n2
        have HN3 := Lib.hid n3
        have HN4 := Lib.hid n4
        have HN7 := Lib.hid n7
        clear n2 n3 n4 n7 het
        have HH := Lib.hid (bnext H3.out HBl.out (Nat.le_refl _))
        go_wp2_with fail
        refine (implSumOfWhat_any s t 0 100000 m _ (by omega) (by omega) ⟨by omega, by omega⟩ ⟨by omega, by omega⟩ (cell_on HH.out HM.out) (tabUp HT.out HH.out) (synUp HV.out HH.out)).mono ?_
        rw [HN2.out]
        rintro e w5 ⟨rfl, b5⟩
        have z5 := b5.size
        have hct := cell_on b5 ct
        have HH5 := Lib.hid (bnext HH.out b5 (Nat.le_refl _))
        have HB5 := Lib.hid (bnext HBl.out b5 (Nat.le_refl _))
        clear b5 ct
        go_wp2_with fail
        refine (implValuesOf_any s t m _ (by omega) (by omega) (cell_on HH5.out HM.out) (tabUp HT.out HH5.out) (synUp HV.out HH5.out)).mono ?_
        rw [HN3.out, HN4.out]
        rintro e w6 ⟨A6, m6, d6, rfl, s6, b6⟩
        have z6 := b6.size
        have HB6 := Lib.hid (bnext HB5.out b6 (Nat.le_refl _))
        clear b6 hct
        have hm6 : (valsTo l t l.length).length = m6 := by have := s6.len; rw [ints_length] at this; omega
        rw [hm6] at n5 n6
        have h60 : ((m6 : Int) == 0) = false := by rw [beq_eq_false_iff_ne]; omega
        have HV6 := Lib.hid (show addTo (valsTo l t l.length) m6 = sumTo l t 0 100000 l.length by rw [← hm6]; exact HN7.out)
        have HM6 := Lib.hid hm6
        clear hm6
        have R6 := s6.reads (Nat.le_refl _)
        clear s6
        go_wp2_with fail
        refine (a2Sum_any _ _ _ _ _ _ R6 (by omega) (fun x hx => by have := vals_bd HOK.out t l.length x hx; omega)).mono ?_
        rw [HV6.out]
        rintro e w' ⟨rfl, rfl⟩
        generalize hS : sumNL l l.length (ns.take k) = S at *
        have HS := Lib.hid hS
        clear hS
        generalize hC : cntNL l l.length (ns.take k) = C at *
        have HC := Lib.hid hC
        clear hC
        generalize hX : sumTo l t 0 100000 l.length = X at *
        have HX := Lib.hid hX
        clear hX
        go_wp2
        go_roundw
        case rel => exact ⟨k + 1, by omega, by go_num, by rw [HQ.out.1], by rw [HQ.out.2, HM6.out]; rfl, HB6.out⟩
        case measure => simp [intOf]; omega
      · obtain rfl : k = m3 := by omega
        have hall := sumNL_all HOK.out l.length (Nat.le_refl _)
        rw [HGN.out] at hall
        have hta : ns.take k = ns := List.take_of_length_le (by have := HNS.out; omega)
        rw [hta, hall.1, hall.2]
        clear hall hta
        have HB3 := Lib.hid (bnext H3.out HBl.out (Nat.le_refl _))
        replace R1 := R1.on (Nat.le_refl _) HBl.out
        have hvb : ∀ x ∈ l.map (·.val), -1000000 ≤ x ∧ x ≤ 1000000 := fun x hx => by
          obtain ⟨y, hy, rfl⟩ := List.mem_map.1 hx
          have := okEn_bd (HOK.out y hy)
          omega
        have HVB := Lib.hid hvb
        clear hvb
        go_wp2
        go_loop [15, 16] (fun s i => ∃ j : Nat, j ≤ l.length ∧ i = .int .i64 (j : Int) ∧ s = .int .i64 (addTo (l.map (·.val)) j)) (fun _ i => l.length - (intOf i).toNat)
        case atStart => exact ⟨0, Nat.zero_le _, rfl, rfl⟩
        case round =>
          obtain ⟨j, hj, rfl, rfl⟩ := hrel
          by_cases hjl : j < l.length
          · obtain ⟨y, lb, loff, hy, rfl, hlb, c0', c1', c2'⟩ := en_at R1 hjl
            have hys : (l.map (·.val))[j]? = some y.val := by simp [hy]
            have hyb := HVB.out _ (List.mem_of_getElem? hys)
            have hs := addTo_bd (b := 1000000) (by omega) (fun x hx => by have := HVB.out x hx; omega) j
            have HS := Lib.hid (addTo_step hys)
            clear hy hys c0' c1'
            generalize addTo (l.map (·.val)) j = S at *
            go_wp2
            go_round
            case rel => exact ⟨j + 1, by omega, by go_num, by rw [HS.out]⟩
            case measure => simp [intOf]; omega
          · obtain rfl : j = l.length := by omega
            go_wp2
            go_ret
            exact ⟨ret_bool (by simp), HB3.out⟩
end Go.Proofs.YtjmlcobbjpmjpaaDoor.lawLogSums
