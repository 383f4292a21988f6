/- FnPeaks: the peaks, the stations with a share, the quiet hours, the share of a station and the difference of days, as the law asks of them, for every code. -/
import Derived.Test.YtnlghcpidlpfkaaPkP
import Derived.Test.YtnlghcpidlpfkaaPkF
import Derived.Test.YtnlghcpidlpfkaaEvDs
import Derived.Test.YtnlghcpidlpfkaaEvE
import Derived.Laws.StructEq
import Derived.Deep.DeepCutAuto
set_option linter.unusedVariables false
set_option linter.unusedSimpArgs false
namespace Go.Proofs.Ytnlghcpidlpfkaa.lawPeaks
open Go.RowKit Go.Proofs.Ytnlghcpidlpfkaa

set_option maxHeartbeats 4000000 in
set_option maxRecDepth 100000 in
theorem walk (A0 : Option Addr) (n0 c0 : Nat) (bs : List Int) (w : World) (h0 : Reads w w.heap.size 1 A0 n0 (byts bs)) (hn0 : n0 ≤ 9223372036854775807) (hb0 : ∀ x ∈ bs, Byt x) :
    Calls Try.prog 9 #[.slice A0 n0 c0] w fun e w' => e = .returned (.bool true) ∧ Below w.heap.size w w' := by
  go_enter Try.func9, Try.ntmps9
  go_wp2_with fail
  refine (f6big_any A0 n0 c0 _ hn0).mono ?_
  rintro e w' ⟨rfl, rfl⟩
  by_cases hbig : 4096 < n0
  · rw [decide_eq_true hbig]
    go_wp2
    go_ret
    exact ⟨rfl, Below.refl _ _⟩
  · rw [decide_eq_false hbig]
    go_wp2_with fail
    refine (drawPeakHour_any _ _ _ bs _ ((h0.on (Nat.le_refl _) (Below.refl w.heap.size w)).more (Below.refl w.heap.size w).size) hb0 hn0).mono ?_
    rintro e w1 ⟨la, Aa, da, rfl, hla, sa, b1⟩
    have z1 := b1.size
    have H1 := Lib.hid (bnext (Below.refl w.heap.size w) b1 (Nat.le_refl _))
    clear b1
    go_wp2_with fail
    refine (implPeakHour_any _ _ _ la _ _ (sa.reads (by omega)) (Nat.le_refl _) (by omega)).mono ?_
    rintro e w2 ⟨rfl, b2⟩
    have z2 := b2.size
    replace sa := sa.on b2
    have H2 := Lib.hid (bnext H1.out b2 (Nat.le_refl _))
    clear b2
    go_wp2_with fail
    refine (specPeakHour_any _ _ _ la _ _ (sa.reads (by omega)) (Nat.le_refl _) (by omega)).mono ?_
    rintro e w3 ⟨rfl, b3⟩
    have z3 := b3.size
    replace sa := sa.on b3
    have H3 := Lib.hid (bnext H2.out b3 (Nat.le_refl _))
    clear b3
    go_wp2_with fail
    refine (drawFewestStationsFor_any _ _ _ bs _ ((h0.on (Nat.le_refl _) H3.out).more H3.out.size) hb0 hn0).mono ?_
    rintro e w4 ⟨lb, Ab, db, xb, rfl, hxb, hlb, sb, b4⟩
    have z4 := b4.size
    replace sa := sa.on b4
    have H4 := Lib.hid (bnext H3.out b4 (Nat.le_refl _))
    clear b4
    go_wp2_with fail
    refine (implFewestStationsFor_any _ _ _ lb xb _ _ (sb.reads (by omega)) (Nat.le_refl _) (by omega) hxb).mono ?_
    rintro e w5 ⟨A5, m5, d5, rfl, s5, b5⟩
    have z5 := b5.size
    replace sa := sa.on b5
    replace sb := sb.on b5
    have H5 := Lib.hid (bnext H4.out b5 (Nat.le_refl _))
    clear b5
    go_wp2_with fail
    refine (specFewestStationsFor_any _ _ _ lb xb _ _ (sb.reads (by omega)) (Nat.le_refl _) (by omega) hxb).mono ?_
    rintro e w6 ⟨A6, m6, d6, rfl, s6, b6⟩
    have z6 := b6.size
    replace sa := sa.on b6
    replace sb := sb.on b6
    replace s5 := s5.on b6
    have H6 := Lib.hid (bnext H5.out b6 (Nat.le_refl _))
    clear b6
    have hm5 : m5 ≤ 1048576 := cntFewestStationsFor_len s5.len
    obtain rfl : m5 = m6 := by have h1 := s5.len; have h2 := s6.len; omega
    go_upto_region 9 with fail
    as_aux_lemma =>
      go_wp2_with fail
      refine (drawQuietHours_any _ _ _ bs _ ((h0.on (Nat.le_refl _) H6.out).more H6.out.size) hb0 hn0).mono ?_
      rintro e w7 ⟨lc, Ac, dc, xc, rfl, hxc, hlc, sc, b7⟩
      have z7 := b7.size
      replace sa := sa.on b7
      replace sb := sb.on b7
      replace s5 := s5.on b7
      replace s6 := s6.on b7
      have H7 := Lib.hid (bnext H6.out b7 (Nat.le_refl _))
      clear b7
      go_wp2_with fail
      refine (implQuietHours_any _ _ _ lc xc _ _ (sc.reads (by omega)) (Nat.le_refl _) (by omega) hxc).mono ?_
      rintro e w8 ⟨A8, m8, d8, rfl, s8, b8⟩
      have z8 := b8.size
      replace sa := sa.on b8
      replace sb := sb.on b8
      replace s5 := s5.on b8
      replace s6 := s6.on b8
      replace sc := sc.on b8
      have H8 := Lib.hid (bnext H7.out b8 (Nat.le_refl _))
      clear b8
      go_wp2_with fail
      refine (specQuietHours_any _ _ _ lc xc _ _ (sc.reads (by omega)) (Nat.le_refl _) (by omega) hxc).mono ?_
      rintro e w9 ⟨A9, m9, d9, rfl, s9, b9⟩
      have z9 := b9.size
      replace sa := sa.on b9
      replace sb := sb.on b9
      replace s5 := s5.on b9
      replace s6 := s6.on b9
      replace sc := sc.on b9
      replace s8 := s8.on b9
      have H9 := Lib.hid (bnext H8.out b9 (Nat.le_refl _))
      clear b9
      have hm8 : m8 ≤ 1048576 := cntQuietHours_len s8.len
      obtain rfl : m8 = m9 := by have h1 := s8.len; have h2 := s9.len; omega
      go_upto_region 12 with fail
      as_aux_lemma =>
        go_wp2_with fail
        refine (drawShareOfStation_any _ _ _ bs _ ((h0.on (Nat.le_refl _) H9.out).more H9.out.size) hb0 hn0).mono ?_
        rintro e w10 ⟨ld, Ad, dd, xd, rfl, hxd, hld, sd, b10⟩
        have z10 := b10.size
        replace sa := sa.on b10
        replace sb := sb.on b10
        replace s5 := s5.on b10
        replace s6 := s6.on b10
        replace sc := sc.on b10
        replace s8 := s8.on b10
        replace s9 := s9.on b10
        have H10 := Lib.hid (bnext H9.out b10 (Nat.le_refl _))
        clear b10
        go_wp2_with fail
        refine (implShareOfStation_any _ _ _ ld xd _ _ (sd.reads (by omega)) (Nat.le_refl _) (by omega) hxd).mono ?_
        rintro e w11 ⟨rfl, b11⟩
        have z11 := b11.size
        replace sa := sa.on b11
        replace sb := sb.on b11
        replace s5 := s5.on b11
        replace s6 := s6.on b11
        replace sc := sc.on b11
        replace s8 := s8.on b11
        replace s9 := s9.on b11
        replace sd := sd.on b11
        have H11 := Lib.hid (bnext H10.out b11 (Nat.le_refl _))
        clear b11
        obtain ⟨w12, hw12⟩ : ∃ y, w11.alloc (.cells #[.int .i64 (share ld xd).1.1, .int .i64 (share ld xd).1.2] 97) = y := ⟨_, rfl⟩
        have b12 : Below w11.heap.size w11 w12 := by rw [← hw12]; exact (Below.refl _ _).alloc (Nat.le_refl _) _
        have y1 : Blk w12 w11.heap.size 97 #[.int .i64 (share ld xd).1.1, .int .i64 (share ld xd).1.2] := by rw [← hw12]; exact Blk.new _ _ _
        have z12 : w11.heap.size < w12.heap.size := by rw [← hw12]; simp
        replace sa := sa.on b12
        replace sb := sb.on b12
        replace s5 := s5.on b12
        replace s6 := s6.on b12
        replace sc := sc.on b12
        replace s8 := s8.on b12
        replace s9 := s9.on b12
        replace sd := sd.on b12
        have H12 := Lib.hid (bnext H11.out b12 (Nat.le_refl _))
        clear b12
        go_wp2_with fail
        refine (specShareOfStation_any _ _ _ ld xd _ _ (sd.reads (by omega)) (Nat.le_refl _) (by omega) hxd).mono ?_
        rintro e w13 ⟨rfl, b13⟩
        have z13 := b13.size
        replace sa := sa.on b13
        replace sb := sb.on b13
        replace s5 := s5.on b13
        replace s6 := s6.on b13
        replace sc := sc.on b13
        replace s8 := s8.on b13
        replace s9 := s9.on b13
        replace sd := sd.on b13
        replace y1 := y1.on b13
        have H13 := Lib.hid (bnext H12.out b13 (Nat.le_refl _))
        clear b13
        clear sd
        clear hw12
        obtain ⟨w14, hw14⟩ : ∃ y, w13.alloc (.cells #[.int .i64 (share ld xd).1.1, .int .i64 (share ld xd).1.2] 97) = y := ⟨_, rfl⟩
        have b14 : Below w13.heap.size w13 w14 := by rw [← hw14]; exact (Below.refl _ _).alloc (Nat.le_refl _) _
        have y2 : Blk w14 w13.heap.size 97 #[.int .i64 (share ld xd).1.1, .int .i64 (share ld xd).1.2] := by rw [← hw14]; exact Blk.new _ _ _
        have z14 : w13.heap.size < w14.heap.size := by rw [← hw14]; simp
        replace sa := sa.on b14
        replace sb := sb.on b14
        replace s5 := s5.on b14
        replace s6 := s6.on b14
        replace sc := sc.on b14
        replace s8 := s8.on b14
        replace s9 := s9.on b14
        replace y1 := y1.on b14
        have H14 := Lib.hid (bnext H13.out b14 (Nat.le_refl _))
        clear b14
        go_wp2_with fail
        refine (drawCompareDays_any _ _ _ bs _ ((h0.on (Nat.le_refl _) H14.out).more H14.out.size) hb0 hn0).mono ?_
        rintro e w15 ⟨le, Ae, de, lf, Af, df, rfl, hle, hlf, se, sf, b15⟩
        have z15 := b15.size
        replace sa := sa.on b15
        replace sb := sb.on b15
        replace s5 := s5.on b15
        replace s6 := s6.on b15
        replace sc := sc.on b15
        replace s8 := s8.on b15
        replace s9 := s9.on b15
        replace y1 := y1.on b15
        replace y2 := y2.on b15
        have H15 := Lib.hid (bnext H14.out b15 (Nat.le_refl _))
        clear b15
        clear hw14
        go_wp2_with fail
        refine (implCompareDays_any _ _ _ le _ _ _ lf _ _ (se.reads (by omega)) (sf.reads (by omega)) (Nat.le_refl _) (by omega) (by omega)).mono ?_
        rintro e w16 ⟨rfl, b16⟩
        have z16 := b16.size
        replace sa := sa.on b16
        replace sb := sb.on b16
        replace s5 := s5.on b16
        replace s6 := s6.on b16
        replace sc := sc.on b16
        replace s8 := s8.on b16
        replace s9 := s9.on b16
        replace y1 := y1.on b16
        replace y2 := y2.on b16
        replace se := se.on b16
        replace sf := sf.on b16
        have H16 := Lib.hid (bnext H15.out b16 (Nat.le_refl _))
        clear b16
        go_wp2_with fail
        refine (specCompareDays_any _ _ _ le _ _ _ lf _ _ (se.reads (by omega)) (sf.reads (by omega)) (Nat.le_refl _) (by omega) (by omega)).mono ?_
        rintro e w17 ⟨rfl, b17⟩
        have z17 := b17.size
        replace sa := sa.on b17
        replace sb := sb.on b17
        replace s5 := s5.on b17
        replace s6 := s6.on b17
        replace sc := sc.on b17
        replace s8 := s8.on b17
        replace s9 := s9.on b17
        replace y1 := y1.on b17
        replace y2 := y2.on b17
        replace se := se.on b17
        replace sf := sf.on b17
        have H17 := Lib.hid (bnext H16.out b17 (Nat.le_refl _))
        clear b17
        go_wp2_with fail
        refine (implCompareDays_any _ _ _ lf _ _ _ le _ _ (sf.reads (by omega)) (se.reads (by omega)) (Nat.le_refl _) (by omega) (by omega)).mono ?_
        rintro e w18 ⟨rfl, b18⟩
        have z18 := b18.size
        replace sa := sa.on b18
        replace sb := sb.on b18
        replace s5 := s5.on b18
        replace s6 := s6.on b18
        replace sc := sc.on b18
        replace s8 := s8.on b18
        replace s9 := s9.on b18
        replace y1 := y1.on b18
        replace y2 := y2.on b18
        replace se := se.on b18
        replace sf := sf.on b18
        have H18 := Lib.hid (bnext H17.out b18 (Nat.le_refl _))
        clear b18
        rw [cmpDays_comm le lf]
        go_upto_region 19 with fail
        as_aux_lemma =>
          have k0 := y1.cellAt 0 (by simp)
          have k1 := y1.cellAt 1 (by simp)
          have k2 := y2.cellAt 0 (by simp)
          have k3 := y2.cellAt 1 (by simp)
          simp only [List.getElem_toArray, List.getElem_cons_zero, List.getElem_cons_succ] at k0 k1 k2 k3
          go_wp2_with fail
          refine (f6ints_same _ _ _ _ _ _ _ _ (s5.reads (by omega)) (s6.reads (by omega)) hm5 (Nat.le_refl _)).mono ?_
          rintro e w19 ⟨rfl, b19⟩
          have z19 := b19.size
          replace sa := sa.on b19
          replace sb := sb.on b19
          replace s5 := s5.on b19
          replace s6 := s6.on b19
          replace sc := sc.on b19
          replace s8 := s8.on b19
          replace s9 := s9.on b19
          replace y1 := y1.on b19
          replace y2 := y2.on b19
          replace se := se.on b19
          replace sf := sf.on b19
          have H19 := Lib.hid (bnext H18.out b19 (Nat.le_refl _))
          clear b19
          clear s5
          go_wp2_with fail
          refine (f6ints_same _ _ _ _ _ _ _ _ (s8.reads (by omega)) (s9.reads (by omega)) hm8 (Nat.le_refl _)).mono ?_
          rintro e w20 ⟨rfl, b20⟩
          have z20 := b20.size
          replace sa := sa.on b20
          replace sb := sb.on b20
          replace s6 := s6.on b20
          replace sc := sc.on b20
          replace s8 := s8.on b20
          replace s9 := s9.on b20
          replace y1 := y1.on b20
          replace y2 := y2.on b20
          replace se := se.on b20
          replace sf := sf.on b20
          have H20 := Lib.hid (bnext H19.out b20 (Nat.le_refl _))
          clear b20
          clear s8
          clear k0
          have k0 := y1.cellAt 0 (by simp)
          clear k1
          have k1 := y1.cellAt 1 (by simp)
          clear k2
          have k2 := y2.cellAt 0 (by simp)
          clear k3
          have k3 := y2.cellAt 1 (by simp)
          simp only [List.getElem_toArray, List.getElem_cons_zero, List.getElem_cons_succ] at k0 k1 k2 k3

          go_upto_if 204 with fail
          go_cut [] (fun wx => Below w20.heap.size w20 wx)
          case first => as_aux_lemma =>
            rcases hq : ((fewest lb xb).2 == 0) with _ | _
            · go_wp2_with fail
              go_meet
              exact Below.refl _ _
            · obtain ⟨J, F⟩ := few_all (beq_iff_eq.1 hq)
              have HF := Lib.hid F
              have hnl := F.n
              have hJ10 := F.J10
              have hpn0 := F.pn0
              have hpn1 := F.pn1
              have R6 := s6.reads (B := w20.heap.size) (by omega)
              rw [F.list] at R6
              obtain rfl : m5 = J := by have h1 := ints_len R6; rw [fewSt_len] at h1; omega
              clear F
              go_wp2_with fail
              refine (implCountsByStation_any _ _ _ lb _ _ (sb.reads (by omega)) (Nat.le_refl _) (by omega)).mono ?_
              rw [cntStations_ok HF.out.ok]
              rintro e v1 ⟨Aq, mq, dq, rfl, sq, bq⟩
              clear hq
              have Rq := sq.reads (Nat.le_refl _)
              obtain rfl : mq = 10 := by have h1 := ints_len Rq; rw [stations_len] at h1; omega
              replace R6 := R6.on (Nat.le_refl _) bq
              have HB := Lib.hid bq
              have zq := bq.size
              clear bq sq
              go_wp2
              go_loopw [38, 39] (fun s i wr => ∃ k : Nat, k ≤ m5 ∧ i = .int .i64 k ∧ s = .int .i64 (fewSt (stationsOf lb) k).2.1 ∧ Below v1.heap.size v1 wr) (fun _ i _ => m5 - (intOf i).toNat)
              case atStart => exact ⟨0, Nat.zero_le _, rfl, rfl, Below.refl _ _⟩
              case round =>
                obtain ⟨k, hk, rfl, rfl, hbel⟩ := hrel
                have HBl := Lib.hid hbel
                clear hbel
                by_cases hlt : k < m5
                · obtain ⟨q, v, G⟩ := HF.out.at_ k hlt
                  have HG := Lib.hid G
                  obtain ⟨x6, b6, o6, he6, rfl, hb6, c6⟩ := int_at (R6.on zq HBl.out) hlt
                  obtain rfl : (q : Int) = x6 := by rw [G.at_] at he6; injection he6
                  obtain ⟨xq, bq, oq, heq, rfl, hbq, cq⟩ := int_at (Rq.on (Nat.le_refl _) HBl.out) G.lt
                  obtain rfl : v = xq := by rw [G.val] at heq; injection heq
                  have hv0 := G.v0
                  have hvn := G.vn
                  have hs0 := G.s0
                  have hs1 := G.s1
                  have hask0 := G.ask
                  have HN := Lib.hid G.next
                  have hq10 := G.lt
                  clear he6 heq G
                  generalize hS : (fewSt (stationsOf lb) k).2.1 = s at *
                  have HS := Lib.hid hS
                  clear hS
                  have hask : decide (xb * (lb.length : Int) ≤ 1000 * s) = false := by simp; omega
                  have hw1 : IntKind.i64.wrap (1000 * s) = 1000 * s := by rw [IntKind.wrap_i64]; omega
                  have hw2 : IntKind.i64.wrap (xb * (lb.length : Int)) = xb * (lb.length : Int) := by rw [IntKind.wrap_i64]; omega
                  rcases Nat.eq_zero_or_pos k with hk0 | hk0
                  · have hk1 : decide ((0 : Int) < (k : Int)) = false := by rw [decide_eq_false_iff_not]; omega
                    have hk2 : decide (0 < k) = false := by rw [decide_eq_false_iff_not]; omega
                    have HK0 := Lib.hid hk0
                    clear hk0
                    go_wp2_with fail
                    go_quiet (fail)
                    clear hw1 hw2 hask hk1 hk2
                    go_wp2
                    go_roundw
                    case rel => exact ⟨k + 1, by omega, by go_num, by rw [HN.out], below_drewN HBl.out _⟩
                    case measure => simp [intOf]; omega
                  · obtain ⟨j, rfl⟩ : ∃ j, k = j + 1 := ⟨k - 1, by omega⟩
                    clear hk0
                    obtain ⟨q', v', G'⟩ := HF.out.at_ j (by omega)
                    have HG' := Lib.hid G'
                    obtain ⟨x7, b7, o7, he7, ha7, hb7, c7⟩ := int_at (R6.on zq HBl.out) (show j < m5 by omega)
                    injection ha7 with ha7; injection ha7 with ha7 ha8; subst ha7; subst ha8
                    obtain rfl : (q' : Int) = x7 := by rw [G'.at_] at he7; injection he7
                    obtain ⟨xr, br, or_, her, har, hbr, cr⟩ := int_at (Rq.on (Nat.le_refl _) HBl.out) G'.lt
                    injection har with har; injection har with har har2; subst har; subst har2
                    obtain rfl : v' = xr := by rw [G'.val] at her; injection her
                    have hle := HG.out.less q' v' (by omega) (by rw [show j + 1 - 1 = j by omega]; exact G'.at_) G'.val
                    have hles : decide (v' < v) = false := by simp; omega
                    have hjw : IntKind.i64.wrap (j : Int) = j := by rw [IntKind.wrap_i64]; omega
                    have hj0 : (0 : Int) ≤ j := by omega
                    have hj1 : decide ((0 : Int) < (j : Int) + 1) = true := by rw [decide_eq_true_iff]; omega
                    have hq10' := G'.lt
                    clear he7 her G'
                    go_wp2_with fail
                    go_quiet (fail)
                    clear hw1 hw2 hask hles hjw
                    go_wp2
                    go_roundw
                    case rel => exact ⟨j + 1 + 1, by omega, by go_num, by rw [HN.out], below_drewN HBl.out _⟩
                    case measure => simp [intOf]; omega
                · obtain rfl : k = m5 := by omega
                  have hend : decide (1000 * (fewSt (stationsOf lb) k).2.1 < xb * (lb.length : Int)) = false := by have := HF.out.end_; rw [decide_eq_false_iff_not]; exact this
                  have hs0 := HF.out.s0
                  have hs1 := HF.out.s1
                  go_wp2_with fail
                  go_meet
                  exact bnext HB.out HBl.out (Nat.le_refl _)
          case rest => as_aux_lemma =>
            have z21 := hcut.size
            have HB := Lib.hid (bnext H20.out hcut (Nat.le_refl _))
            clear s6 sb
            replace sa := sa.on hcut
            replace sc := sc.on hcut
            replace s9 := s9.on hcut
            replace se := se.on hcut
            replace sf := sf.on hcut
            replace y2 := y2.on hcut
            clear hcut k0 k1 k2 k3 y1
            go_upto_if 269 with fail
            go_cut [] (fun wx => Below wc.heap.size wc wx)
            case first => as_aux_lemma =>
              rcases hq : ((quiet lc xc).2 == 0) with _ | _
              · go_wp2_with fail
                go_meet
                exact Below.refl _ _
              · obtain ⟨hok, hql⟩ := quiet_zero (beq_iff_eq.1 hq)
                have HOK := Lib.hid hok
                have R9 := s9.reads (B := wc.heap.size) (by omega)
                rw [hql] at R9
                clear hql hok
                go_wp2_with fail
                refine (specCountsByHour_any _ _ _ lc _ _ (sc.reads (by omega)) (Nat.le_refl _) (by omega)).mono ?_
                rw [cntHours_ok HOK.out]
                rintro e v1 ⟨Aq, mq, dq, rfl, sq, bq⟩
                clear hq
                have Rq := sq.reads (Nat.le_refl _)
                obtain rfl : mq = 24 := by have h1 := ints_len Rq; rw [hours_len] at h1; omega
                replace R9 := R9.on (Nat.le_refl _) bq
                have HB2 := Lib.hid bq
                have zq := bq.size
                clear bq sq
                go_wp2
                go_loopw [42] (fun i wr => ∃ k : Nat, k ≤ 24 ∧ i = .int .i64 k ∧ Below v1.heap.size v1 wr) (fun i _ => 24 - (intOf i).toNat)
                case atStart => exact ⟨0, Nat.zero_le _, rfl, Below.refl _ _⟩
                case round =>
                  obtain ⟨k, hk, rfl, hbel⟩ := hrel
                  have HBl := Lib.hid hbel
                  clear hbel
                  by_cases hlt : k < 24
                  · obtain ⟨xq, bq, oq, heq, rfl, hbq, cq⟩ := int_at (Rq.on (Nat.le_refl _) HBl.out) hlt
                    have HE := Lib.hid (quiet_has (most := xc) hlt heq)
                    clear heq
                    have HR9 := Lib.hid (R9.on zq HBl.out)
                    have HC := Lib.hid (show ∀ (b : Bool), decide (xq ≤ xc) = b → ∀ W, (∃ m, W = wr.drewN m) → Calls Try.prog 70 #[.slice A9 m8 d9, .int .i64 (k : Int)] W fun e w' => e = .returned (.bool b) ∧ w' = W from fun b hb W hW => by
                      obtain ⟨m, rfl⟩ := hW
                      exact (f6has_any _ _ _ _ _ _ _ (HR9.out.keep (w' := wr.drewN m) fun _ _ => rfl) hm8).mono fun e w' hh => ⟨hh.1.trans (ret_bool (HE.out.trans hb)), hh.2.symm⟩)
                    by_cases hx : xq ≤ xc
                    · have HC1 := Lib.hid (HC.out true (by simpa using hx))
                      go_wp2_with fail
                      go_quiet ((go_at_call 70; exact Calls.quiet_of_same (HC1.out _ ⟨_, rfl⟩)))
                      go_wp2
                      go_roundw
                      case rel => exact ⟨k + 1, by omega, by go_num, below_drewN HBl.out _⟩
                      case measure => simp [intOf]; omega
                    · have hx' : decide (xq ≤ xc) = false := by simpa using hx
                      have HC1 := Lib.hid (HC.out false hx')
                      go_wp2_with fail
                      go_quiet ((go_at_call 70; exact Calls.quiet_of_same (HC1.out _ ⟨_, rfl⟩)))
                      go_wp2
                      go_roundw
                      case rel => exact ⟨k + 1, by omega, by go_num, below_drewN HBl.out _⟩
                      case measure => simp [intOf]; omega
                  · obtain rfl : k = 24 := by omega
                    go_wp2_with fail
                    go_meet
                    exact bnext HB2.out HBl.out (Nat.le_refl _)
            case rest => as_aux_lemma =>
              have HBb := Lib.hid (bnext HB.out hcut (Nat.le_refl _))
              clear s9 sc
              replace sa := sa.on hcut
              replace se := se.on hcut
              replace sf := sf.on hcut
              replace y2 := y2.on hcut
              have zc2 := hcut.size
              clear hcut
              have k2 := y2.cellAt 0 (by simp)
              have k3 := y2.cellAt 1 (by simp)
              simp only [List.getElem_toArray, List.getElem_cons_zero, List.getElem_cons_succ] at k2 k3
              go_upto_region 43 with fail
              go_cut [306] (fun sv wx => sv = .bool false ∧ wx = wc)
              case first => as_aux_lemma =>
                rcases hq : ((share ld xd).2 == 0) with _ | _
                · go_wp2_with fail
                  go_meet
                  exact ⟨rfl, rfl⟩
                · have hb := share_bd (beq_iff_eq.1 hq)
                  have hb1 : decide ((share ld xd).1.1 < 0) = false := by rw [decide_eq_false_iff_not]; omega
                  have hb2 : decide ((share ld xd).1.2 < (share ld xd).1.1) = false := by rw [decide_eq_false_iff_not]; omega
                  go_wp2_with fail
                  go_meet
                  exact ⟨rfl, rfl⟩
              case rest =>
                obtain ⟨rfl, hwc⟩ := hcut
                subst hwc
                go_upto_if 308 with fail
                go_cut [] (fun wx => Below wc.heap.size wc wx)
                case first => as_aux_lemma =>
                  rcases hq : ((cmpDays le lf).2 == 0) with _ | _
                  · go_wp2_with fail
                    go_meet
                    exact Below.refl _ _
                  · obtain ⟨hok, hb0, hb1⟩ := cmp_zero (beq_iff_eq.1 hq)
                    have HOK := Lib.hid hok
                    have hd1 : decide ((cmpDays le lf).1 < 0) = false := by rw [decide_eq_false_iff_not]; omega
                    have hd2 : decide ((le.length : Int) + (lf.length : Int) < (cmpDays le lf).1) = false := by rw [decide_eq_false_iff_not]; omega
                    clear hok
                    go_wp2_with fail
                    refine (implCompareDays_any _ _ _ le _ _ _ le _ _ (se.reads (by omega)) (se.reads (by omega)) (Nat.le_refl _) (by omega) (by omega)).mono ?_
                    rw [cmp_self HOK.out]
                    rintro e v1 ⟨rfl, bq⟩
                    have HB2 := Lib.hid bq
                    clear bq
                    go_wp2_with fail
                    go_meet
                    exact HB2.out
                case rest => as_aux_lemma =>
                  have HBc := Lib.hid (bnext HBb.out hcut (Nat.le_refl _))
                  replace sa := sa.on hcut
                  have zc3 := hcut.size
                  clear hcut se sf y2 k2 k3
                  rcases hq : ((peak la).2.2 == 0) with _ | _
                  · have hq' : ((peak la).2.2 != 0) = true := by simp [bne, hq]
                    go_wp2
                    go_ret
                    exact ⟨rfl, HBc.out⟩
                  · have hq' : ((peak la).2.2 != 0) = false := by simp [bne, hq]
                    obtain ⟨hok, q, v, hp, hq24, hqv, hmax⟩ := peak_zero (beq_iff_eq.1 hq)
                    have HOK := Lib.hid hok
                    have HQ := Lib.hid hqv
                    have HM := Lib.hid hmax
                    have HP := Lib.hid hp
                    clear hok hqv hmax hp
                    go_wp2_with fail
                    refine (implCountsByHour_any _ _ _ la _ _ (sa.reads (by omega)) (Nat.le_refl _) (by omega)).mono ?_
                    rw [cntHours_ok HOK.out]
                    rintro e v1 ⟨Aq, mq, dq, rfl, sq, bq⟩
                    clear hq hq'
                    have Rq := sq.reads (Nat.le_refl _)
                    obtain rfl : mq = 24 := by have h1 := ints_len Rq; rw [hours_len] at h1; omega
                    have HB2 := Lib.hid (bnext HBc.out bq (Nat.le_refl _))
                    clear bq sq
                    rw [HP.out]
                    dsimp only
                    go_wp2
                    go_loop [47] (fun i => ∃ k : Nat, k ≤ 24 ∧ i = .int .i64 k) (fun i => 24 - (intOf i).toNat)
                    case atStart => exact ⟨0, Nat.zero_le _, rfl⟩
                    case round =>
                      obtain ⟨k, hk, rfl⟩ := hrel
                      by_cases hlt : k < 24
                      · obtain ⟨xq, bq, oq, heq, rfl, hbq, cq⟩ := int_at Rq hlt
                        have hle := HM.out k xq hlt heq
                        have hled : decide (v < xq) = false := by rw [decide_eq_false_iff_not]; omega
                        clear heq
                        go_wp2
                        go_round
                        case rel => exact ⟨k + 1, by omega, by go_num⟩
                        case measure => simp [intOf]; omega
                      · obtain rfl : k = 24 := by omega
                        obtain ⟨xq, bq, oq, heq, rfl, hbq, cq⟩ := int_at Rq hq24
                        obtain rfl : v = xq := by rw [HQ.out] at heq; injection heq
                        clear heq
                        go_wp2
                        go_ret
                        exact ⟨ret_bool (by simp), HB2.out⟩

end Go.Proofs.Ytnlghcpidlpfkaa.lawPeaks
