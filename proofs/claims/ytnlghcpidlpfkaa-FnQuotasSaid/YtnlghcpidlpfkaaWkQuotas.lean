/- FnQuotas: the quota of a station, the busiest station, what is left of a quota, the contracts that end in a span and the active clients, as the law asks of them, for every code. -/
import Derived.Test.YtnlghcpidlpfkaaQuoP
import Derived.Test.YtnlghcpidlpfkaaPkT
import Derived.Test.YtnlghcpidlpfkaaPkF
import Derived.Test.YtnlghcpidlpfkaaClDu
import Derived.Laws.StructEq
import Derived.Deep.DeepCutAuto
set_option linter.unusedVariables false
set_option linter.unusedSimpArgs false
namespace Go.Proofs.Ytnlghcpidlpfkaa.lawQuotas
open Go.RowKit Go.Proofs.Ytnlghcpidlpfkaa

set_option maxHeartbeats 4000000 in
set_option maxRecDepth 100000 in
theorem walk (A0 : Option Addr) (n0 c0 : Nat) (bs : List Int) (w : World) (h0 : Reads w w.heap.size 1 A0 n0 (byts bs)) (hn0 : n0 ≤ 9223372036854775807) (hb0 : ∀ x ∈ bs, Byt x) :
    Calls Try.prog 10 #[.slice A0 n0 c0] w fun e w' => e = .returned (.bool true) ∧ Below w.heap.size w w' := by
  go_enter Try.func10, Try.ntmps10
  go_wp2_with fail
  refine (f6big_any A0 n0 c0 _ hn0).mono ?_
  rintro e w' ⟨rfl, rfl⟩
  by_cases hbig : 4096 < n0
  · rw [decide_eq_true hbig]
    go_wp2
    go_ret
    exact ⟨rfl, Below.refl _ _⟩
  · rw [decide_eq_false hbig]
    go_wp2_with fail
    refine (drawQuotaOn_any _ _ _ bs _ ((h0.on (Nat.le_refl _) (Below.refl w.heap.size w)).more (Below.refl w.heap.size w).size) hb0 hn0).mono ?_
    rintro e w1 ⟨la, Aa, da, xa, ya, rfl, hxa, hya, hla, hga, sa, b1⟩
    have z1 := b1.size
    have H1 := Lib.hid (bnext (Below.refl w.heap.size w) b1 (Nat.le_refl _))
    clear b1
    have Ga := Lib.hid (show (∀ z ∈ la, z.small) ∧ (∀ z ∈ la, z.good) from ⟨fun z hz => (hga z hz).2, fun z hz => (hga z hz).1⟩)
    clear hga
    go_wp2_with fail
    refine (implQuotaOn_any _ _ _ la xa ya _ _ (sa.reads (by omega)) (Nat.le_refl _) (by omega) Ga.out.1 Ga.out.2 hxa hya).mono ?_
    rintro e w2 ⟨rfl, b2⟩
    have z2 := b2.size
    replace sa := sa.on b2
    have H2 := Lib.hid (bnext H1.out b2 (Nat.le_refl _))
    clear b2
    go_wp2_with fail
    refine (specQuotaOn_any _ _ _ la xa ya _ _ (sa.reads (by omega)) (Nat.le_refl _) (by omega) Ga.out.1 Ga.out.2 hxa hya).mono ?_
    rintro e w3 ⟨rfl, b3⟩
    have z3 := b3.size
    replace sa := sa.on b3
    have H3 := Lib.hid (bnext H2.out b3 (Nat.le_refl _))
    clear b3
    go_wp2_with fail
    refine (implBusiestStation_any _ _ _ la ya _ _ (sa.reads (by omega)) (Nat.le_refl _) (by omega) Ga.out.1 Ga.out.2 hya).mono ?_
    rintro e w4 ⟨rfl, b4⟩
    have z4 := b4.size
    replace sa := sa.on b4
    have H4 := Lib.hid (bnext H3.out b4 (Nat.le_refl _))
    clear b4
    go_wp2_with fail
    refine (specBusiestStation_any _ _ _ la ya _ _ (sa.reads (by omega)) (Nat.le_refl _) (by omega) Ga.out.1 Ga.out.2 hya).mono ?_
    rintro e w5 ⟨rfl, b5⟩
    have z5 := b5.size
    replace sa := sa.on b5
    have H5 := Lib.hid (bnext H4.out b5 (Nat.le_refl _))
    clear b5
    go_upto_region 8 with fail
    as_aux_lemma =>
      go_wp2_with fail
      refine (drawLeftOfQuota_any _ _ _ bs _ ((h0.on (Nat.le_refl _) H5.out).more H5.out.size) hb0 hn0).mono ?_
      rintro e w6 ⟨lb, Ab, db, tb, xb, yb, rfl, htb, hxb, hyb, hlb, hgb, sb, b6⟩
      have z6 := b6.size
      replace sa := sa.on b6
      have H6 := Lib.hid (bnext H5.out b6 (Nat.le_refl _))
      clear b6
      have Gb := Lib.hid (show (∀ z ∈ lb, z.small) ∧ (∀ z ∈ lb, z.good) from ⟨fun z hz => (hgb z hz).2, fun z hz => (hgb z hz).1⟩)
      clear hgb
      go_wp2_with fail
      refine (implLeftOfQuota_any _ _ _ lb tb xb yb _ _ (sb.reads (by omega)) (Nat.le_refl _) (by omega) Gb.out.1 Gb.out.2 htb hxb hyb).mono ?_
      rintro e w7 ⟨rfl, b7⟩
      have z7 := b7.size
      replace sa := sa.on b7
      replace sb := sb.on b7
      have H7 := Lib.hid (bnext H6.out b7 (Nat.le_refl _))
      clear b7
      go_wp2_with fail
      refine (specLeftOfQuota_any _ _ _ lb tb xb yb _ _ (sb.reads (by omega)) (Nat.le_refl _) (by omega) Gb.out.1 Gb.out.2 htb hxb hyb).mono ?_
      rintro e w8 ⟨rfl, b8⟩
      have z8 := b8.size
      replace sa := sa.on b8
      replace sb := sb.on b8
      have H8 := Lib.hid (bnext H7.out b8 (Nat.le_refl _))
      clear b8
      clear sb
      go_upto_region 11 with fail
      as_aux_lemma =>
        go_wp2_with fail
        refine (drawEndsBetween_any _ _ _ bs _ ((h0.on (Nat.le_refl _) H8.out).more H8.out.size) hb0 hn0).mono ?_
        rintro e w9 ⟨lc, Ac, dc, xc, yc, rfl, hxc, hyc, hlc, hgc, sc, b9⟩
        have z9 := b9.size
        replace sa := sa.on b9
        have H9 := Lib.hid (bnext H8.out b9 (Nat.le_refl _))
        clear b9
        have Gc := Lib.hid (show (∀ z ∈ lc, z.small) ∧ (∀ z ∈ lc, z.good) from ⟨fun z hz => (hgc z hz).2, fun z hz => (hgc z hz).1⟩)
        clear hgc
        go_wp2_with fail
        refine (implEndsBetween_any _ _ _ lc xc yc _ _ (sc.reads (by omega)) (Nat.le_refl _) (by omega) Gc.out.1 Gc.out.2 hxc hyc).mono ?_
        rintro e w10 ⟨A5, m5, d5, rfl, s5, b10⟩
        have z10 := b10.size
        replace sa := sa.on b10
        replace sc := sc.on b10
        have H10 := Lib.hid (bnext H9.out b10 (Nat.le_refl _))
        clear b10
        go_wp2_with fail
        refine (specEndsBetween_any _ _ _ lc xc yc _ _ (sc.reads (by omega)) (Nat.le_refl _) (by omega) Gc.out.1 Gc.out.2 hxc hyc).mono ?_
        rintro e w11 ⟨A6, m6, d6, rfl, s6, b11⟩
        have z11 := b11.size
        replace sa := sa.on b11
        replace sc := sc.on b11
        replace s5 := s5.on b11
        have H11 := Lib.hid (bnext H10.out b11 (Nat.le_refl _))
        clear b11
        have hm5 : m5 ≤ 1048576 := cntEndsBetween_len s5.len
        obtain rfl : m5 = m6 := by have h1 := s5.len; have h2 := s6.len; omega
        go_upto_region 14 with fail
        as_aux_lemma =>
          go_wp2_with fail
          refine (implActiveOn_any _ _ _ la ya _ _ (sa.reads (by omega)) (Nat.le_refl _) (by omega) Ga.out.1 Ga.out.2 hya).mono ?_
          rintro e w12 ⟨A7, m7, d7, rfl, s7, b12⟩
          have z12 := b12.size
          replace sa := sa.on b12
          replace sc := sc.on b12
          replace s5 := s5.on b12
          replace s6 := s6.on b12
          have H12 := Lib.hid (bnext H11.out b12 (Nat.le_refl _))
          clear b12
          go_wp2_with fail
          refine (specActiveOn_any _ _ _ la ya _ _ (sa.reads (by omega)) (Nat.le_refl _) (by omega) Ga.out.1 Ga.out.2 hya).mono ?_
          rintro e w13 ⟨A8, m8, d8, rfl, s8, b13⟩
          have z13 := b13.size
          replace sa := sa.on b13
          replace sc := sc.on b13
          replace s5 := s5.on b13
          replace s6 := s6.on b13
          replace s7 := s7.on b13
          have H13 := Lib.hid (bnext H12.out b13 (Nat.le_refl _))
          clear b13
          have hm7 : m7 ≤ 1048576 := cntActiveOn_len s7.len
          obtain rfl : m7 = m8 := by have h1 := s7.len; have h2 := s8.len; omega
          go_upto_region 16 with fail
          as_aux_lemma =>
            go_wp2_with fail
            refine (f6texts_same _ _ _ _ _ _ _ _ (s5.reads (by omega)) (s6.reads (by omega)) hm5 (Nat.le_refl _)).mono ?_
            rintro e w14 ⟨rfl, b14⟩
            have z14 := b14.size
            replace sa := sa.on b14
            replace sc := sc.on b14
            replace s5 := s5.on b14
            replace s6 := s6.on b14
            replace s7 := s7.on b14
            replace s8 := s8.on b14
            have H14 := Lib.hid (bnext H13.out b14 (Nat.le_refl _))
            clear b14
            clear s5
            go_wp2_with fail
            refine (f6texts_same _ _ _ _ _ _ _ _ (s7.reads (by omega)) (s8.reads (by omega)) hm7 (Nat.le_refl _)).mono ?_
            rintro e w15 ⟨rfl, b15⟩
            have z15 := b15.size
            replace sa := sa.on b15
            replace sc := sc.on b15
            replace s6 := s6.on b15
            replace s7 := s7.on b15
            replace s8 := s8.on b15
            have H15 := Lib.hid (bnext H14.out b15 (Nat.le_refl _))
            clear b15
            clear s7
            go_upto_region 18 with fail
            as_aux_lemma =>
              go_cut [182] (fun sv wx => sv = .bool false ∧ wx = w15)
              case first => as_aux_lemma =>
                have hp := left_pos lb tb xb yb
                have hd : decide ((leftF lb tb xb yb).1 < 0) = false := by rw [decide_eq_false_iff_not]; omega
                rcases hq : ((leftF lb tb xb yb).2 == 0) with _ | _
                · go_wp2_with fail
                  go_meet
                  exact ⟨rfl, rfl⟩
                · go_wp2_with fail
                  go_meet
                  exact ⟨rfl, rfl⟩
              case rest =>
                obtain ⟨rfl, hwc⟩ := hcut
                subst hwc
                go_upto_if 184 with fail
                go_cut [] (fun wx => Below wc.heap.size wc wx)
                case first => as_aux_lemma =>
                  rcases hq : ((endsBetweenF lc xc yc).2 == 0) with _ | _
                  · go_wp2_with fail
                    go_meet
                    exact Below.refl _ _
                  · obtain ⟨hok, hen⟩ := ends_zero (beq_iff_eq.1 hq)
                    have HOK := Lib.hid hok
                    have R6 := s6.reads (B := wc.heap.size) (by omega)
                    rw [hen] at R6
                    have Rc := sc.reads (B := wc.heap.size) (by omega)
                    clear hok hen
                    go_wp2
                    go_loopw [33] (fun i wr => ∃ k : Nat, k ≤ lc.length ∧ i = .int .i64 k ∧ Below wc.heap.size wc wr) (fun i _ => lc.length - (intOf i).toNat)
                    case atStart => exact ⟨0, Nat.zero_le _, rfl, Below.refl _ _⟩
                    case round =>
                      obtain ⟨k, hk, rfl, hbel⟩ := hrel
                      have HBl := Lib.hid hbel
                      clear hbel
                      by_cases hlt : k < lc.length
                      · obtain ⟨x, b, off, he, rfl, hb, e0, e1, e2, e3, e4⟩ := cl_at (Rc.on (Nat.le_refl _) HBl.out) hlt
                        have HE := Lib.hid (hasW_names (p := fun y => inR y.to_ xc yc) HOK.out he)
                        clear he
                        have HR6 := Lib.hid (R6.on (Nat.le_refl _) HBl.out)
                        have HC := Lib.hid (show ∀ (b : Bool), inR x.to_ xc yc = b → ∀ W, (∃ m, W = wr.drewN m) → Calls Try.prog 86 #[.slice A6 m5 d6, .string x.name] W fun e w' => e = .returned (.bool b) ∧ w' = W from fun b hb W hW => by
                          obtain ⟨m, rfl⟩ := hW
                          exact (f6word_any _ _ _ _ _ _ _ (HR6.out.keep (w' := wr.drewN m) fun _ _ => rfl) hm5).mono fun e w' hh => ⟨hh.1.trans (ret_bool (HE.out.trans hb)), hh.2.symm⟩)
                        rcases hin : inR x.to_ xc yc with _ | _
                        · by_cases h2 : xc ≤ x.to_
                          · have h3 : ¬ x.to_ ≤ yc := by intro h; simp [inR, h2, h] at hin
                            have h3' : decide (x.to_ ≤ yc) = false := by simpa using h3
                            clear h3
                            have HC1 := Lib.hid (HC.out false hin)
                            clear hin
                            go_wp2_with fail
                            go_quiet ((go_at_call 86; exact Calls.quiet_of_same (HC1.out _ ⟨_, rfl⟩)))
                            go_wp2
                            go_roundw
                            case rel => exact ⟨k + 1, by omega, by go_num, below_drewN HBl.out _⟩
                            case measure => simp [intOf]; omega
                          · have h2' : decide (xc ≤ x.to_) = false := by simpa using h2
                            clear h2
                            have HC1 := Lib.hid (HC.out false hin)
                            clear hin
                            go_wp2_with fail
                            go_quiet ((go_at_call 86; exact Calls.quiet_of_same (HC1.out _ ⟨_, rfl⟩)))
                            go_wp2
                            go_roundw
                            case rel => exact ⟨k + 1, by omega, by go_num, below_drewN HBl.out _⟩
                            case measure => simp [intOf]; omega
                        · obtain ⟨h2, h3⟩ : xc ≤ x.to_ ∧ x.to_ ≤ yc := by simpa [inR] using hin
                          have HC1 := Lib.hid (HC.out true hin)
                          clear hin
                          go_wp2_with fail
                          go_quiet ((go_at_call 86; exact Calls.quiet_of_same (HC1.out _ ⟨_, rfl⟩)))
                          go_wp2
                          go_roundw
                          case rel => exact ⟨k + 1, by omega, by go_num, below_drewN HBl.out _⟩
                          case measure => simp [intOf]; omega
                      · obtain rfl : k = lc.length := by omega
                        go_wp2_with fail
                        go_meet
                        exact HBl.out
                case rest => as_aux_lemma =>
                  have HB := Lib.hid (bnext H15.out hcut (Nat.le_refl _))
                  have zcut := hcut.size
                  replace sa := sa.on hcut
                  replace s8 := s8.on hcut
                  clear hcut s6 sc
                  rcases hq : ((quotaF la xa ya).2 == 0) with _ | _
                  · have hq' : ((quotaF la xa ya).2 != 0) = true := by simp [bne, hq]
                    go_wp2
                    go_ret
                    exact ⟨rfl, HB.out⟩
                  · obtain ⟨hok, hst, hday, hqq⟩ := quota_zero (beq_iff_eq.1 hq)
                    obtain ⟨bb, bc, hbusy, hz, hB⟩ := busy_cases hok hst hday
                    have HOK := Lib.hid hok
                    have HZ := Lib.hid hz
                    have HBB := Lib.hid hB
                    have hbd := quotaSum_bd hok xa ya
                    have R8 := s8.reads (B := wc.heap.size) (by omega)
                    rw [activeOnF_ok hok hday] at R8
                    dsimp only at R8
                    have Ra := sa.reads (B := wc.heap.size) (by omega)
                    rw [hqq, hbusy]
                    clear hq hqq hbusy hok hst hday hz hB s8
                    dsimp only
                    have HQS := Lib.hid (show csum (quotaf xa ya) la la.length = quotaSum la xa ya from rfl)
                    generalize hqs : quotaSum la xa ya = qs at *
                    have HQ := Lib.hid hqs
                    clear hqs
                    go_wp2
                    go_loop [34, 35] (fun s i => ∃ k : Nat, k ≤ la.length ∧ i = .int .i64 k ∧ s = .int .i64 (csum (quotaf xa ya) la k)) (fun _ i => la.length - (intOf i).toNat)
                    case atStart => exact ⟨0, Nat.zero_le _, rfl, rfl⟩
                    case round =>
                      obtain ⟨k, hk, rfl, rfl⟩ := hrel
                      by_cases hlt : k < la.length
                      · as_aux_lemma =>
                          obtain ⟨x, b, off, he, rfl, hb, e0, e1, e2, e3, e4⟩ := cl_at Ra hlt
                          have hs := csum_step (f := quotaf xa ya) he
                          have hb2 := csum_bd (quotaf_bd HOK.out xa ya) k
                          have hb4 := quotaf_bd HOK.out xa ya x (List.mem_of_getElem? he)
                          have HE := Lib.hid (hasW_names (p := fun y => active y ya) HOK.out he)
                          generalize csum (quotaf xa ya) la k = s at *
                          generalize hS2 : csum (quotaf xa ya) la (k + 1) = s2 at *
                          have HS2 := Lib.hid hS2
                          clear hS2 he
                          rcases h1 : (x.station == xa) with _ | _
                          · have HS := Lib.hid (show s2 = s by rw [hs]; simp [quotaf, h1])
                            clear hs hb4
                            go_wp2
                            go_round
                            case rel => exact ⟨k + 1, by omega, by go_num, by rw [HS2.out, HS.out]⟩
                            case measure => simp [intOf]; omega
                          · rcases h2 : active x ya with _ | _
                            · have HS := Lib.hid (show s2 = s by rw [hs]; simp [quotaf, h2])
                              have HF := Lib.hid (HE.out.trans h2)
                              clear hs hb4 h2
                              go_wp2_with fail
                              refine (f6word_any _ _ _ _ _ _ _ R8 hm7).mono ?_
                              rw [HF.out]
                              rintro e w' ⟨rfl, rfl⟩
                              go_wp2
                              go_round
                              case rel => exact ⟨k + 1, by omega, by go_num, by rw [HS2.out, HS.out]⟩
                              case measure => simp [intOf]; omega
                            · have hqx : quotaf xa ya x = x.quota := by simp [quotaf, h1, h2]
                              rw [hqx] at hs hb4
                              have hw : IntKind.i64.wrap (s + x.quota) = s2 := by rw [IntKind.wrap_i64]; omega
                              have HF := Lib.hid (HE.out.trans h2)
                              clear hs hb4 h2 hqx
                              go_wp2_with fail
                              refine (f6word_any _ _ _ _ _ _ _ R8 hm7).mono ?_
                              rw [HF.out]
                              rintro e w' ⟨rfl, rfl⟩
                              go_wp2
                              go_round
                              case rel => exact ⟨k + 1, by omega, by go_num, by rw [HS2.out]⟩
                              case measure => simp [intOf]; omega
                      · obtain rfl : k = la.length := by omega
                        rw [HQS.out]
                        clear R8 Ra
                        as_aux_lemma =>
                        rcases hq2 : (bc == 0) with _ | _
                        · have hq3 : (bc != 0) = true := by simp [bne, hq2]
                          have h0 : qs = 0 := HZ.out (by intro h; rw [h] at hq2; simp at hq2)
                          have h0' : (qs == 0) = true := by rw [h0]; rfl
                          have H0 := Lib.hid h0
                          clear h0
                          go_wp2
                          go_ret
                          exact ⟨ret_bool (by simp [H0.out]), HB.out⟩
                        · have hq3 : (bc != 0) = false := by simp [bne, hq2]
                          have T := HBB.out (beq_iff_eq.1 hq2)
                          have t1 := T.pos
                          have t2 := T.most
                          rw [HQ.out] at t2
                          have t3 := T.b0
                          have t4 := T.b9
                          have HT := Lib.hid T.q
                          clear T
                          go_wp2_with fail
                          refine (implQuotaOn_any _ _ _ la bb ya _ _ (sa.reads (by omega)) (Nat.le_refl _) (by omega) Ga.out.1 Ga.out.2 ⟨by omega, by omega⟩ hya).mono ?_
                          rw [HT.out]
                          rintro e v1 ⟨rfl, bv⟩
                          have HV := Lib.hid (bnext HB.out bv (Nat.le_refl _))
                          clear bv
                          generalize quotaSum la bb ya = bq at *
                          have hd1 : decide (bq < qs) = false := by rw [decide_eq_false_iff_not]; omega
                          have hd2 : decide (0 < bq) = true := by rw [decide_eq_true_iff]; omega
                          go_wp2
                          all_goals first | (go_ret; exact ⟨ret_bool (by simp), HV.out⟩) | (go_ret; exact ⟨ret_bool (by simp; omega), HV.out⟩) | (exfalso; omega) | trace_state

end Go.Proofs.Ytnlghcpidlpfkaa.lawQuotas
