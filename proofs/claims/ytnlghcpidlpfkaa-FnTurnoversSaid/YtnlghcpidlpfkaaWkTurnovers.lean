/- FnTurnovers: the turnover of a span, the interest, the oldest unpaid charge and the clients with a booking, as the law asks of them, for every code. -/
import Derived.Test.YtnlghcpidlpfkaaTrnP
import Derived.Test.YtnlghcpidlpfkaaPkT
import Derived.Test.YtnlghcpidlpfkaaPkF
import Derived.Test.YtnlghcpidlpfkaaBkDt
import Derived.Laws.StructEq
import Derived.Deep.DeepCutAuto
set_option linter.unusedVariables false
set_option linter.unusedSimpArgs false
namespace Go.Proofs.Ytnlghcpidlpfkaa.lawTurnovers
open Go.RowKit Go.Proofs.Ytnlghcpidlpfkaa

set_option maxHeartbeats 4000000 in
set_option maxRecDepth 100000 in
theorem walk (A0 : Option Addr) (n0 c0 : Nat) (bs : List Int) (w : World) (h0 : Reads w w.heap.size 1 A0 n0 (byts bs)) (hn0 : n0 ≤ 9223372036854775807) (hb0 : ∀ x ∈ bs, Byt x) :
    Calls Try.prog 11 #[.slice A0 n0 c0] w fun e w' => e = .returned (.bool true) ∧ Below w.heap.size w w' := by
  go_enter Try.func11, Try.ntmps11
  go_wp2_with fail
  refine (f6big_any A0 n0 c0 _ hn0).mono ?_
  rintro e w' ⟨rfl, rfl⟩
  by_cases hbig : 4096 < n0
  · rw [decide_eq_true hbig]
    go_wp2
    go_ret
    exact ⟨rfl, Below.refl _ _⟩
  · rw [decide_eq_false hbig]
    go_wp2_with fail
    refine (drawTurnoverOf_any _ _ _ bs _ ((h0.on (Nat.le_refl _) (Below.refl w.heap.size w)).more (Below.refl w.heap.size w).size) hb0 hn0).mono ?_
    rintro e w1 ⟨la, Aa, da, xa, ya, rfl, hxa, hya, hla, hga, sa, b1⟩
    have z1 := b1.size
    have H1 := Lib.hid (bnext (Below.refl w.heap.size w) b1 (Nat.le_refl _))
    clear b1
    have Ga := Lib.hid (show ∀ z ∈ la, z.small from fun z hz => (hga z hz).2)
    clear hga
    go_wp2_with fail
    refine (implTurnoverOf_any _ _ _ la xa ya _ _ (sa.reads (by omega)) (Nat.le_refl _) (by omega) Ga.out hxa hya).mono ?_
    rintro e w2 ⟨rfl, b2⟩
    have z2 := b2.size
    replace sa := sa.on b2
    have H2 := Lib.hid (bnext H1.out b2 (Nat.le_refl _))
    clear b2
    go_wp2_with fail
    refine (specTurnoverOf_any _ _ _ la xa ya _ _ (sa.reads (by omega)) (Nat.le_refl _) (by omega) Ga.out hxa hya).mono ?_
    rintro e w3 ⟨rfl, b3⟩
    have z3 := b3.size
    replace sa := sa.on b3
    have H3 := Lib.hid (bnext H2.out b3 (Nat.le_refl _))
    clear b3
    go_upto_region 6 with fail
    as_aux_lemma =>
      go_wp2_with fail
      refine (drawInterestOn_any _ _ _ bs _ ((h0.on (Nat.le_refl _) H3.out).more H3.out.size) hb0 hn0).mono ?_
      rintro e w4 ⟨lb, Ab, db, tb, xb, yb, rb, rfl, htb, hxb, hyb, hrb, hlb, hgb, sb, b4⟩
      have z4 := b4.size
      replace sa := sa.on b4
      have H4 := Lib.hid (bnext H3.out b4 (Nat.le_refl _))
      clear b4
      have Gb := Lib.hid (show ∀ z ∈ lb, z.small from fun z hz => (hgb z hz).2)
      clear hgb
      go_wp2_with fail
      refine (implInterestOn_any _ _ _ lb tb xb yb rb _ _ (sb.reads (by omega)) (Nat.le_refl _) (by omega) Gb.out (by omega) hxb hyb hrb).mono ?_
      rintro e w5 ⟨rfl, b5⟩
      have z5 := b5.size
      replace sa := sa.on b5
      replace sb := sb.on b5
      have H5 := Lib.hid (bnext H4.out b5 (Nat.le_refl _))
      clear b5
      obtain ⟨w6, hw6⟩ : ∃ y, w5.alloc (.cells #[.int .i64 (interest lb tb xb yb rb).1.1, .int .i64 (interest lb tb xb yb rb).1.2] 97) = y := ⟨_, rfl⟩
      have b6 : Below w5.heap.size w5 w6 := by rw [← hw6]; exact (Below.refl _ _).alloc (Nat.le_refl _) _
      have y1 : Blk w6 w5.heap.size 97 #[.int .i64 (interest lb tb xb yb rb).1.1, .int .i64 (interest lb tb xb yb rb).1.2] := by rw [← hw6]; exact Blk.new _ _ _
      have z6 : w5.heap.size < w6.heap.size := by rw [← hw6]; simp
      replace sa := sa.on b6
      replace sb := sb.on b6
      have H6 := Lib.hid (bnext H5.out b6 (Nat.le_refl _))
      clear b6
      go_wp2_with fail
      refine (specInterestOn_any _ _ _ lb tb xb yb rb _ _ (sb.reads (by omega)) (Nat.le_refl _) (by omega) Gb.out (by omega) hxb hyb hrb).mono ?_
      rintro e w7 ⟨rfl, b7⟩
      have z7 := b7.size
      replace sa := sa.on b7
      replace sb := sb.on b7
      replace y1 := y1.on b7
      have H7 := Lib.hid (bnext H6.out b7 (Nat.le_refl _))
      clear b7
      clear sb
      clear hw6
      obtain ⟨w8, hw8⟩ : ∃ y, w7.alloc (.cells #[.int .i64 (interest lb tb xb yb rb).1.1, .int .i64 (interest lb tb xb yb rb).1.2] 97) = y := ⟨_, rfl⟩
      have b8 : Below w7.heap.size w7 w8 := by rw [← hw8]; exact (Below.refl _ _).alloc (Nat.le_refl _) _
      have y2 : Blk w8 w7.heap.size 97 #[.int .i64 (interest lb tb xb yb rb).1.1, .int .i64 (interest lb tb xb yb rb).1.2] := by rw [← hw8]; exact Blk.new _ _ _
      have z8 : w7.heap.size < w8.heap.size := by rw [← hw8]; simp
      replace sa := sa.on b8
      replace y1 := y1.on b8
      have H8 := Lib.hid (bnext H7.out b8 (Nat.le_refl _))
      clear b8
      go_wp2_with fail
      refine (drawOldestUnpaid_any _ _ _ bs _ ((h0.on (Nat.le_refl _) H8.out).more H8.out.size) hb0 hn0).mono ?_
      rintro e w9 ⟨lc, Ac, dc, tc, rfl, htc, hlc, hgc, sc, b9⟩
      have z9 := b9.size
      replace sa := sa.on b9
      replace y1 := y1.on b9
      replace y2 := y2.on b9
      have H9 := Lib.hid (bnext H8.out b9 (Nat.le_refl _))
      clear b9
      have Gc := Lib.hid (show ∀ z ∈ lc, z.small from fun z hz => (hgc z hz).2)
      clear hgc
      clear hw8
      go_upto_region 10 with fail
      as_aux_lemma =>
        go_wp2_with fail
        refine (implOldestUnpaid_any _ _ _ lc tc _ _ (sc.reads (by omega)) (Nat.le_refl _) (by omega) Gc.out (by omega)).mono ?_
        rintro e w10 ⟨rfl, b10⟩
        have z10 := b10.size
        replace sa := sa.on b10
        replace y1 := y1.on b10
        replace y2 := y2.on b10
        replace sc := sc.on b10
        have H10 := Lib.hid (bnext H9.out b10 (Nat.le_refl _))
        clear b10
        go_wp2_with fail
        refine (specOldestUnpaid_any _ _ _ lc tc _ _ (sc.reads (by omega)) (Nat.le_refl _) (by omega) Gc.out (by omega)).mono ?_
        rintro e w11 ⟨rfl, b11⟩
        have z11 := b11.size
        replace sa := sa.on b11
        replace y1 := y1.on b11
        replace y2 := y2.on b11
        replace sc := sc.on b11
        have H11 := Lib.hid (bnext H10.out b11 (Nat.le_refl _))
        clear b11
        go_wp2_with fail
        refine (drawClientsBooked_any _ _ _ bs _ ((h0.on (Nat.le_refl _) H11.out).more H11.out.size) hb0 hn0).mono ?_
        rintro e w12 ⟨ld, Ad, dd, rfl, hld, hgd, sd, b12⟩
        have z12 := b12.size
        replace sa := sa.on b12
        replace y1 := y1.on b12
        replace y2 := y2.on b12
        replace sc := sc.on b12
        have H12 := Lib.hid (bnext H11.out b12 (Nat.le_refl _))
        clear b12
        have Gd := Lib.hid (show ∀ z ∈ ld, z.small from fun z hz => (hgd z hz).2)
        clear hgd
        go_wp2_with fail
        refine (implClientsBooked_any _ _ _ ld _ _ (sd.reads (by omega)) (Nat.le_refl _) (by omega) Gd.out).mono ?_
        rintro e w13 ⟨A5, m5, d5, rfl, s5, b13⟩
        have z13 := b13.size
        replace sa := sa.on b13
        replace y1 := y1.on b13
        replace y2 := y2.on b13
        replace sc := sc.on b13
        replace sd := sd.on b13
        have H13 := Lib.hid (bnext H12.out b13 (Nat.le_refl _))
        clear b13
        go_wp2_with fail
        refine (specClientsBooked_any _ _ _ ld _ _ (sd.reads (by omega)) (Nat.le_refl _) (by omega) Gd.out).mono ?_
        rintro e w14 ⟨A6, m6, d6, rfl, s6, b14⟩
        have z14 := b14.size
        replace sa := sa.on b14
        replace y1 := y1.on b14
        replace y2 := y2.on b14
        replace sc := sc.on b14
        replace sd := sd.on b14
        replace s5 := s5.on b14
        have H14 := Lib.hid (bnext H13.out b14 (Nat.le_refl _))
        clear b14
        clear sd
        have hm5 : m5 ≤ 1048576 := cntClientsBooked_len s5.len
        obtain rfl : m5 = m6 := by have h1 := s5.len; have h2 := s6.len; omega
        go_upto_region 15 with fail
        as_aux_lemma =>
          have k0 := y1.cellAt 0 (by simp)
          have k1 := y1.cellAt 1 (by simp)
          have k2 := y2.cellAt 0 (by simp)
          have k3 := y2.cellAt 1 (by simp)
          simp only [List.getElem_toArray, List.getElem_cons_zero, List.getElem_cons_succ] at k0 k1 k2 k3
          go_wp2_with fail
          refine (f6texts_same _ _ _ _ _ _ _ _ (s5.reads (by omega)) (s6.reads (by omega)) hm5 (Nat.le_refl _)).mono ?_
          rintro e w15 ⟨rfl, b15⟩
          have z15 := b15.size
          replace sa := sa.on b15
          replace y1 := y1.on b15
          replace y2 := y2.on b15
          replace sc := sc.on b15
          replace s5 := s5.on b15
          replace s6 := s6.on b15
          have H15 := Lib.hid (bnext H14.out b15 (Nat.le_refl _))
          clear b15
          clear s5
          clear k0 k1 k2 k3 y1
          go_upto_region 18 with fail
          as_aux_lemma =>
            have R6 := s6.reads (B := w15.heap.size) (by omega)
            clear s6
            go_wp2
            go_loopw [34] (fun i wr => ∃ k : Nat, 1 ≤ k ∧ k ≤ m5 + 1 ∧ i = .int .i64 k ∧ Below w15.heap.size w15 wr) (fun i _ => m5 + 1 - (intOf i).toNat)
            case atStart => exact ⟨1, Nat.le_refl _, by omega, rfl, Below.refl _ _⟩
            case round =>
              obtain ⟨k, hk1, hk, rfl, hbel⟩ := hrel
              have HBl := Lib.hid hbel
              clear hbel
              by_cases hlt : k < m5
              · as_aux_lemma =>
                  obtain ⟨j, rfl⟩ : ∃ j, k = j + 1 := ⟨k - 1, by omega⟩
                  obtain ⟨x6, b6, o6, he6, rfl, hb6, c6⟩ := str_at (R6.on (Nat.le_refl _) HBl.out) hlt
                  obtain ⟨x7, b7, o7, he7, ha7, hb7, c7⟩ := str_at (R6.on (Nat.le_refl _) HBl.out) (show j < m5 by omega)
                  injection ha7 with ha7; injection ha7 with ha7 ha8; subst ha7; subst ha8
                  have hles := ss_next (booked_ss ld) he7 he6
                  have hjw : IntKind.i64.wrap (j : Int) = j := by rw [IntKind.wrap_i64]; omega
                  have hj0 : (0 : Int) ≤ j := by omega
                  clear he6 he7
                  go_wp2_with fail
                  go_quiet (fail)
                  clear hles hjw
                  go_wp2
                  go_roundw
                  case rel => exact ⟨j + 1 + 1, by omega, by omega, by go_num, below_drewN HBl.out _⟩
                  case measure => simp [intOf]; omega
              · go_upto_region 22 with fail
                as_aux_lemma =>
                  have HB := Lib.hid (bnext H15.out HBl.out (Nat.le_refl _))
                  have zr := HBl.out.size
                  replace sa := sa.on HBl.out
                  replace sc := sc.on HBl.out
                  replace y2 := y2.on HBl.out
                  clear R6 HBl
                  have k2 := y2.cellAt 0 (by simp)
                  have k3 := y2.cellAt 1 (by simp)
                  simp only [List.getElem_toArray, List.getElem_cons_zero, List.getElem_cons_succ] at k2 k3
                  go_cut [189] (fun sv wx => sv = .bool false ∧ wx = wr)
                  case first => as_aux_lemma =>
                    have hp := interest_pos lb tb xb yb rb
                    have hd : decide ((interest lb tb xb yb rb).1.1 < 0) = false := by rw [decide_eq_false_iff_not]; omega
                    rcases hq : ((interest lb tb xb yb rb).2 == 0) with _ | _
                    · go_wp2_with fail
                      go_meet
                      exact ⟨rfl, rfl⟩
                    · go_wp2_with fail
                      go_meet
                      exact ⟨rfl, rfl⟩
                  case rest =>
                    obtain ⟨rfl, hwc⟩ := hcut
                    subst hwc
                    clear k2 k3 y2
                    go_upto_region 24 with fail
                    obtain ⟨oj, om, oc, ho, hO⟩ := old_form lc tc
                    rw [ho]
                    dsimp only
                    clear ho
                    go_cut [213] (fun sv wx => sv = .bool false ∧ wx = wc)
                    case first => as_aux_lemma =>
                      rcases hq : (oc == 0) with _ | _
                      · go_wp2_with fail
                        go_meet
                        exact ⟨rfl, rfl⟩
                      · obtain ⟨j, x, rfl, hx, hm1, hm2, hn⟩ := hO (beq_iff_eq.1 hq)
                        obtain rfl : oc = 0 := beq_iff_eq.1 hq
                        obtain ⟨hjl, _⟩ := List.getElem?_eq_some_iff.1 hx
                        obtain ⟨x', b', o', he', rfl, hb', e0, e1, e2⟩ := bk_at (sc.reads (B := wc.heap.size) (by omega)) hjl
                        obtain rfl : x = x' := by rw [hx] at he'; injection he'
                        have hd1 : decide (om < 1) = false := by rw [decide_eq_false_iff_not]; omega
                        have hd2 : decide (x.amount < om) = false := by rw [decide_eq_false_iff_not]; omega
                        clear hx he' hq hO
                        go_wp2_with fail
                        go_meet
                        exact ⟨rfl, rfl⟩
                    case rest => as_aux_lemma =>
                      obtain ⟨rfl, hwc⟩ := hcut
                      subst hwc
                      clear sc hO
                      rcases hq : ((turnF la xa ya).2.2 == 0) with _ | _
                      · have hq' : ((turnF la xa ya).2.2 != 0) = true := by simp [bne, hq]
                        go_wp2
                        go_ret
                        exact ⟨rfl, HB.out⟩
                      · obtain ⟨p, o, hpo, T⟩ := turn_zero (beq_iff_eq.1 hq)
                        have hp0 := T.p0
                        have hp1 := T.p1
                        have ho0 := T.o0
                        have ho1 := T.o1
                        have hl80 := T.len
                        have HT := Lib.hid T
                        clear T hq
                        rw [hpo]
                        clear hpo
                        have Ra := sa.reads (B := wc.heap.size) (by omega)
                        clear sa
                        dsimp only
                        go_wp2
                        go_loop [35, 36] (fun s i => ∃ k : Nat, k ≤ la.length ∧ i = .int .i64 k ∧ s = .int .i64 (bsum (amtf xa ya) la k)) (fun _ i => la.length - (intOf i).toNat)
                        case atStart => exact ⟨0, Nat.zero_le _, rfl, rfl⟩
                        case round =>
                          obtain ⟨k, hk, rfl, rfl⟩ := hrel
                          by_cases hlt : k < la.length
                          · obtain ⟨x, b, off, he, rfl, hb, e0, e1, e2⟩ := bk_at Ra hlt
                            have hs := bsum_step (f := amtf xa ya) he
                            have hb2 := amt_bd HT.out.ok HT.out.len xa ya (show k ≤ la.length by omega)
                            have hb3 := amt_bd HT.out.ok HT.out.len xa ya (show k + 1 ≤ la.length by omega)
                            generalize bsum (amtf xa ya) la k = s at *
                            generalize hS2 : bsum (amtf xa ya) la (k + 1) = s2 at *
                            have HS2 := Lib.hid hS2
                            clear hS2 he
                            rcases h1 : inR x.day xa ya with _ | _
                            · have hs2 : s2 = s := by rw [hs]; simp [amtf, h1]
                              have HS := Lib.hid hs2
                              clear hs
                              by_cases h2 : xa ≤ x.day
                              · have h3 : ¬ x.day ≤ ya := by intro h; simp [inR, h2, h] at h1
                                go_wp2
                                go_round
                                case rel => exact ⟨k + 1, by omega, by go_num, by rw [HS2.out, HS.out]⟩
                                case measure => simp [intOf]; omega
                              · go_wp2
                                go_round
                                case rel => exact ⟨k + 1, by omega, by go_num, by rw [HS2.out, HS.out]⟩
                                case measure => simp [intOf]; omega
                            · have h2 : xa ≤ x.day ∧ x.day ≤ ya := by simpa [inR] using h1
                              obtain ⟨h2, h3⟩ := h2
                              have hs2 : s + x.amount = s2 := by rw [hs]; simp [amtf, h1]
                              have hw : IntKind.i64.wrap (s + x.amount) = s2 := by rw [IntKind.wrap_i64]; omega
                              clear hs h1
                              go_wp2
                              go_round
                              case rel => exact ⟨k + 1, by omega, by go_num, by rw [HS2.out]⟩
                              case measure => simp [intOf]; omega
                          · obtain rfl : k = la.length := by omega
                            have hsum := HT.out.sum
                            generalize bsum (amtf xa ya) la la.length = s at *
                            have hw : IntKind.i64.wrap (p - o) = s := by rw [IntKind.wrap_i64]; omega
                            have hd1 : decide (p < 0) = false := by rw [decide_eq_false_iff_not]; omega
                            have hd2 : decide (o < 0) = false := by rw [decide_eq_false_iff_not]; omega
                            clear hsum
                            go_wp2
                            go_ret
                            exact ⟨ret_bool (by simp), HB.out⟩

end Go.Proofs.Ytnlghcpidlpfkaa.lawTurnovers
