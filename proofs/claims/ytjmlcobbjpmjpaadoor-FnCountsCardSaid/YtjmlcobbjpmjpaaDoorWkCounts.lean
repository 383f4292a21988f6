/- FnCounts: counts by hours, by stations and by both add up to all events, and moving sums are those of their hours; for every code. -/
import Derived.Test.YtjmlcobbjpmjpaaDoorCntP
import Derived.Test.YtjmlcobbjpmjpaaDoorPkF
import Derived.Test.YtjmlcobbjpmjpaaDoorEvDs
import Derived.Test.YtjmlcobbjpmjpaaDoorEvE
import Derived.Test.YtjmlcobbjpmjpaaDoorTxtEv
import Derived.Deep.DeepCutAuto
set_option linter.unusedVariables false
set_option linter.unusedSimpArgs false
namespace Go.Proofs.YtjmlcobbjpmjpaaDoor.lawCounts
open Go.RowKit Go.Proofs.YtjmlcobbjpmjpaaDoor

set_option maxHeartbeats 4000000 in
set_option maxRecDepth 100000 in
theorem walk (A0 : Option Addr) (n0 c0 : Nat) (bs : List Int) (w : World) (h0 : Reads w w.heap.size 1 A0 n0 (byts bs)) (hn0 : n0 ≤ 9223372036854775807) (hb0 : ∀ x ∈ bs, Byt x) (ht : TabP w) :
    Calls Tryd.prog 6 #[.slice A0 n0 c0] w fun e w' => e = .returned (.bool true) ∧ Below w.heap.size w w' := by
  have HT := Lib.hid ht
  clear ht
  go_enter Tryd.func6, Tryd.ntmps6
  go_wp2_with fail
  refine (f6big_any A0 n0 c0 _ hn0).mono ?_
  rintro e w' ⟨rfl, rfl⟩
  by_cases hbig : 4096 < n0
  · rw [decide_eq_true hbig]
    go_wp2
    go_ret
    exact ⟨rfl, Below.refl _ _⟩
  · rw [decide_eq_false hbig]
    go_wp2_with fail
    refine (drawMovingCounts_any _ _ _ bs _ ((h0.on (Nat.le_refl _) (Below.refl w.heap.size w)).more (Below.refl w.heap.size w).size) hb0 hn0).mono ?_
    rintro e w1 ⟨l, Al, dl, x, rfl, hx, hl, sl, b1⟩
    have z1 := b1.size
    have H1 := Lib.hid (bnext (Below.refl w.heap.size w) b1 (Nat.le_refl _))
    clear b1
    go_wp2_with fail
    refine (implMovingCounts_any _ _ _ l x _ _ (sl.reads (by omega)) (Nat.le_refl _) (by omega) hx).mono ?_
    rintro e w2 ⟨A2, m2, d2, rfl, s2, b2⟩
    have z2 := b2.size
    replace sl := sl.on b2
    have H2 := Lib.hid (bnext H1.out b2 (Nat.le_refl _))
    clear b2
    go_wp2_with fail
    refine (specMovingCounts_any _ _ _ l x _ _ (sl.reads (by omega)) (Nat.le_refl _) (by omega) hx).mono ?_
    rintro e w3 ⟨A3, m3, d3, rfl, s3, b3⟩
    have z3 := b3.size
    replace sl := sl.on b3
    replace s2 := s2.on b3
    have H3 := Lib.hid (bnext H2.out b3 (Nat.le_refl _))
    clear b3
    have hm2 : m2 ≤ 1048576 := cntMovingCounts_len s2.len
    obtain rfl : m2 = m3 := by have h1 := s2.len; have h2 := s3.len; omega
    go_wp2_with fail
    refine (implCountsByHour_any _ _ _ l _ _ (sl.reads (by omega)) (Nat.le_refl _) (by omega)).mono ?_
    rintro e w4 ⟨A4, m4, d4, rfl, s4, b4⟩
    have z4 := b4.size
    replace sl := sl.on b4
    replace s2 := s2.on b4
    replace s3 := s3.on b4
    have H4 := Lib.hid (bnext H3.out b4 (Nat.le_refl _))
    clear b4
    go_wp2_with fail
    refine (specCountsByHour_any _ _ _ l _ _ (sl.reads (by omega)) (Nat.le_refl _) (by omega)).mono ?_
    rintro e w5 ⟨A5, m5, d5, rfl, s5, b5⟩
    have z5 := b5.size
    replace sl := sl.on b5
    replace s2 := s2.on b5
    replace s3 := s3.on b5
    replace s4 := s4.on b5
    have H5 := Lib.hid (bnext H4.out b5 (Nat.le_refl _))
    clear b5
    have hm4 : m4 ≤ 1048576 := cntCountsByHour_len s4.len
    obtain rfl : m4 = m5 := by have h1 := s4.len; have h2 := s5.len; omega
    go_upto_region 8 with fail
    as_aux_lemma =>
      go_wp2_with fail
      refine (implCountsByStation_any _ _ _ l _ _ (sl.reads (by omega)) (Nat.le_refl _) (by omega)).mono ?_
      rintro e w6 ⟨A6, m6, d6, rfl, s6, b6⟩
      have z6 := b6.size
      replace sl := sl.on b6
      replace s2 := s2.on b6
      replace s3 := s3.on b6
      replace s4 := s4.on b6
      replace s5 := s5.on b6
      have H6 := Lib.hid (bnext H5.out b6 (Nat.le_refl _))
      clear b6
      go_wp2_with fail
      refine (specCountsByStation_any _ _ _ l _ _ (sl.reads (by omega)) (Nat.le_refl _) (by omega)).mono ?_
      rintro e w7 ⟨A7, m7, d7, rfl, s7, b7⟩
      have z7 := b7.size
      replace sl := sl.on b7
      replace s2 := s2.on b7
      replace s3 := s3.on b7
      replace s4 := s4.on b7
      replace s5 := s5.on b7
      replace s6 := s6.on b7
      have H7 := Lib.hid (bnext H6.out b7 (Nat.le_refl _))
      clear b7
      have hm6 : m6 ≤ 1048576 := cntCountsByStation_len s6.len
      obtain rfl : m6 = m7 := by have h1 := s6.len; have h2 := s7.len; omega
      go_wp2_with fail
      refine (implCrossCounts_any _ _ _ l _ _ (sl.reads (by omega)) (Nat.le_refl _) (by omega)).mono ?_
      rintro e w8 ⟨A8, d8, gs8, rfl, s8, b8⟩
      have z8 := b8.size
      replace sl := sl.on b8
      replace s2 := s2.on b8
      replace s3 := s3.on b8
      replace s4 := s4.on b8
      replace s5 := s5.on b8
      replace s6 := s6.on b8
      replace s7 := s7.on b8
      have H8 := Lib.hid (bnext H7.out b8 (Nat.le_refl _))
      clear b8
      go_wp2_with fail
      refine (specCrossCounts_any _ _ _ l _ _ (sl.reads (by omega)) (Nat.le_refl _) (by omega)).mono ?_
      rintro e w9 ⟨A9, d9, gs9, rfl, s9, b9⟩
      have z9 := b9.size
      replace sl := sl.on b9
      replace s2 := s2.on b9
      replace s3 := s3.on b9
      replace s4 := s4.on b9
      replace s5 := s5.on b9
      replace s6 := s6.on b9
      replace s7 := s7.on b9
      replace s8 := s8.on b9
      have H9 := Lib.hid (bnext H8.out b9 (Nat.le_refl _))
      clear b9
      go_wp2_with fail
      refine (implBusiestWindow_any _ _ _ l x _ _ (sl.reads (by omega)) (Nat.le_refl _) (by omega) hx).mono ?_
      rintro e w10 ⟨rfl, b10⟩
      have z10 := b10.size
      replace sl := sl.on b10
      replace s2 := s2.on b10
      replace s3 := s3.on b10
      replace s4 := s4.on b10
      replace s5 := s5.on b10
      replace s6 := s6.on b10
      replace s7 := s7.on b10
      replace s8 := s8.on b10
      replace s9 := s9.on b10
      have H10 := Lib.hid (bnext H9.out b10 (Nat.le_refl _))
      clear b10
      go_wp2_with fail
      refine (specBusiestWindow_any _ _ _ l x _ _ (sl.reads (by omega)) (Nat.le_refl _) (by omega) hx).mono ?_
      rintro e w11 ⟨rfl, b11⟩
      have z11 := b11.size
      replace sl := sl.on b11
      replace s2 := s2.on b11
      replace s3 := s3.on b11
      replace s4 := s4.on b11
      replace s5 := s5.on b11
      replace s6 := s6.on b11
      replace s7 := s7.on b11
      replace s8 := s8.on b11
      replace s9 := s9.on b11
      have H11 := Lib.hid (bnext H10.out b11 (Nat.le_refl _))
      clear b11
      go_upto_region 14 with fail
      as_aux_lemma =>
        go_wp2_with fail
        refine (f6ints_same _ _ _ _ _ _ _ _ (s2.reads (by omega)) (s3.reads (by omega)) hm2 (Nat.le_refl _)).mono ?_
        rintro e w12 ⟨rfl, b12⟩
        have z12 := b12.size
        replace sl := sl.on b12
        replace s2 := s2.on b12
        replace s3 := s3.on b12
        replace s4 := s4.on b12
        replace s5 := s5.on b12
        replace s6 := s6.on b12
        replace s7 := s7.on b12
        replace s8 := s8.on b12
        replace s9 := s9.on b12
        have H12 := Lib.hid (bnext H11.out b12 (Nat.le_refl _))
        clear b12
        clear s2
        go_wp2_with fail
        refine (f6ints_same _ _ _ _ _ _ _ _ (s4.reads (by omega)) (s5.reads (by omega)) hm4 (Nat.le_refl _)).mono ?_
        rintro e w13 ⟨rfl, b13⟩
        have z13 := b13.size
        replace sl := sl.on b13
        replace s3 := s3.on b13
        replace s4 := s4.on b13
        replace s5 := s5.on b13
        replace s6 := s6.on b13
        replace s7 := s7.on b13
        replace s8 := s8.on b13
        replace s9 := s9.on b13
        have H13 := Lib.hid (bnext H12.out b13 (Nat.le_refl _))
        clear b13
        clear s4
        go_wp2_with fail
        refine (f6ints_same _ _ _ _ _ _ _ _ (s6.reads (by omega)) (s7.reads (by omega)) hm6 (Nat.le_refl _)).mono ?_
        rintro e w14 ⟨rfl, b14⟩
        have z14 := b14.size
        replace sl := sl.on b14
        replace s3 := s3.on b14
        replace s5 := s5.on b14
        replace s6 := s6.on b14
        replace s7 := s7.on b14
        replace s8 := s8.on b14
        replace s9 := s9.on b14
        have H14 := Lib.hid (bnext H13.out b14 (Nat.le_refl _))
        clear b14
        clear s6
        go_wp2_with fail
        refine (implCountsText_any _ _ _ l _ _ (sl.reads (by omega)) (Nat.le_refl _) (by omega) (tabUp HT.out H14.out)).mono ?_
        rintro e w15 ⟨rfl, b15⟩
        have z15 := b15.size
        replace sl := sl.on b15
        replace s3 := s3.on b15
        replace s5 := s5.on b15
        replace s7 := s7.on b15
        replace s8 := s8.on b15
        replace s9 := s9.on b15
        have H15 := Lib.hid (bnext H14.out b15 (Nat.le_refl _))
        clear b15
        go_wp2_with fail
        refine (specCountsText_any _ _ _ l _ _ (sl.reads (by omega)) (Nat.le_refl _) (by omega)).mono ?_
        rintro e w16 ⟨rfl, b16⟩
        have z16 := b16.size
        replace sl := sl.on b16
        replace s3 := s3.on b16
        replace s5 := s5.on b16
        replace s7 := s7.on b16
        replace s8 := s8.on b16
        replace s9 := s9.on b16
        have H16 := Lib.hid (bnext H15.out b16 (Nat.le_refl _))
        clear b16
        go_wp2_with fail
        refine (implValidEvents_any _ _ _ l _ _ (sl.reads (by omega)) (Nat.le_refl _) (by omega)).mono ?_
        rintro e w17 ⟨rfl, b17⟩
        have z17 := b17.size
        replace sl := sl.on b17
        replace s3 := s3.on b17
        replace s5 := s5.on b17
        replace s7 := s7.on b17
        replace s8 := s8.on b17
        replace s9 := s9.on b17
        have H17 := Lib.hid (bnext H16.out b17 (Nat.le_refl _))
        clear b17
        go_wp2_with fail
        refine (specValidEvents_any _ _ _ l _ _ (sl.reads (by omega)) (Nat.le_refl _) (by omega)).mono ?_
        rintro e w18 ⟨rfl, b18⟩
        have z18 := b18.size
        replace sl := sl.on b18
        replace s3 := s3.on b18
        replace s5 := s5.on b18
        replace s7 := s7.on b18
        replace s8 := s8.on b18
        replace s9 := s9.on b18
        have H18 := Lib.hid (bnext H17.out b18 (Nat.le_refl _))
        clear b18
        have hcn : crossN l ≤ 1000 := by unfold crossN; split <;> omega
        go_upto_if 163 with fail
        go_wp2
        go_loopw [27] (fun i wr => ∃ k : Nat, k ≤ crossN l ∧ i = .int .i64 (k : Int) ∧ Below w18.heap.size w18 wr) (fun i _ => crossN l - (intOf i).toNat)
        case atStart => exact ⟨0, Nat.zero_le _, rfl, Below.refl _ _⟩
        case round =>
          obtain ⟨k, hk, rfl, hbel⟩ := hrel
          have HBl := Lib.hid hbel
          have zr := hbel.size
          have q8 := s8.on hbel
          have q9 := s9.on hbel
          have q7 := s7.on hbel
          clear hbel
          by_cases hlt : k < crossN l
          · obtain ⟨hok, hk10, hc10⟩ := cross_n hlt
            have HOK := Lib.hid hok
            obtain ⟨g8, r8, rfl, hg8, c8, _, _, _, _⟩ := q8.head hlt
            obtain ⟨g9, r9, rfl, hg9, c9, _, _, _, _⟩ := q9.head hlt
            have R8 := Lib.hid (q8.readsR hg8)
            have R9 := Lib.hid (q9.readsR hg9)
            have R7 := q7.reads (B := wr.heap.size) (by omega)
            rw [cntStations_ok hok] at R7
            obtain rfl : m6 = 10 := by have h1 := ints_len R7; rw [stations_len'] at h1; omega
            obtain ⟨v, b7, o7, he7, rfl, hb7, c7⟩ := int_at R7 hk10
            obtain rfl : sumTo (crossRow l k) 24 = v := by rw [cross_sum hok hk10] at he7; injection he7
            have HC1 := Lib.hid (show ∀ W, (∃ m, W = wr.drewN m) → Calls Tryd.prog 38 #[.slice (some ⟨r8, 0, none⟩) 24 24, .slice (some ⟨r9, 0, none⟩) 24 24] W fun e w' => e = .returned (.bool true) ∧ ∃ q, w' = W.drewN q from fun W hW => by
              obtain ⟨j, rfl⟩ := hW
              exact f6ints_quiet _ _ _ _ _ _ _ _ (R8.out.keep (w' := wr.drewN j) fun _ _ => rfl) (R9.out.keep (w' := wr.drewN j) fun _ _ => rfl) (by omega))
            have HC2 := Lib.hid (show ∀ W, (∃ m, W = wr.drewN m) → Calls Tryd.prog 43 #[.slice (some ⟨r9, 0, none⟩) 24 24] W fun e w' => e = .returned (.int .i64 (sumTo (crossRow l k) 24)) ∧ w' = W from fun W hW => by
              obtain ⟨j, rfl⟩ := hW
              exact (f6sum_any _ _ _ _ _ _ (R9.out.keep (w' := wr.drewN j) fun _ _ => rfl) (by omega) (crossRow_bd2 HOK.out k)).mono fun e w' hh => ⟨hh.1, hh.2.symm⟩)
            have hk0 : (0 : Int) ≤ k := by omega
            have hk1 : (k : Int) < (crossN l : Int) := by omega
            have hk2 : (k : Int) < 10 := by omega
            generalize sumTo (crossRow l k) 24 = v at *
            clear hok hg8 hg9 he7 q7 q8 q9 R7 hc10
            go_wp2_with fail
            go_quiet (first | (go_at_call 38; exact Calls.quiet_of (HC1.out _ ⟨_, rfl⟩)) | (go_at_call 43; exact Calls.quiet_of_same (HC2.out _ ⟨_, rfl⟩)))
            go_wp2
            go_roundw
            case rel => exact ⟨k + 1, by omega, by go_num, below_drewN HBl.out _⟩
            case measure => simp [intOf]; omega
          · clear q7 q8 q9
            have HH := Lib.hid (bnext H18.out HBl.out (Nat.le_refl _))
            have p3 := s3.on HBl.out
            have p5 := s5.on HBl.out
            have p7 := s7.on HBl.out
            clear s3 s5 s7 s8 s9 sl HBl
            obtain rfl : k = crossN l := by omega
            go_upto_region 21 with fail
            as_aux_lemma =>
              rcases hok : okEv l with _ | _
              · have e1 : ((cntHours l).2 == 0) = false := by rw [cntHours_bad hok]; rfl
                have e2 : ((moving l x).2 == 0) = false := by rw [moving_bad hok]; rfl
                have e3 : ((moving l x).2 != 0) = true := by rw [moving_bad hok]; rfl
                clear hok
                go_wp2
                go_ret
                exact ⟨rfl, HH.out⟩
              · have e1 : ((cntHours l).2 == 0) = true := by rw [cntHours_ok hok]; rfl
                have HOK := Lib.hid hok
                rw [cntHours_ok hok] at p5
                rw [cntStations_ok hok] at p7
                obtain rfl : m4 = 24 := by have h1 := p5.len; rw [ints_length, hours_len'] at h1; omega
                obtain rfl : m6 = 10 := by have h1 := p7.len; rw [ints_length, stations_len'] at h1; omega
                have R5 := p5.reads (B := wr.heap.size) (by omega)
                have R7 := p7.reads (B := wr.heap.size) (by omega)
                clear hok p7
                go_wp2_with fail
                clear e1
                refine (f6sum_any _ _ _ _ _ _ R5 (by omega) (fun y hy => by have := hours_bd' HOK.out y hy; omega)).mono ?_
                rw [hours_sum HOK.out]
                rintro e w' ⟨rfl, rfl⟩
                go_wp2_with fail
                refine (f6sum_any _ _ _ _ _ _ R7 (by omega) (fun y hy => by have h1 := histOf_bound _ _ l y hy; have := okEv_len HOK.out; omega)).mono ?_
                rw [stations_sum HOK.out]
                rintro e w' ⟨rfl, rfl⟩
                clear R7
                rcases hw : inR x 1 24 with _ | _
                · have e2 : ((moving l x).2 == 0) = false := by rw [moving_range HOK.out hw]; rfl
                  have e3 : ((moving l x).2 != 0) = true := by rw [moving_range HOK.out hw]; rfl
                  clear hw
                  go_wp2
                  go_ret
                  exact ⟨rfl, HH.out⟩
                · obtain ⟨h, rfl⟩ := Int.eq_ofNat_of_zero_le (show 0 ≤ x by have := inR_true.1 hw; omega)
                  obtain ⟨m, q, v, hh1, hhm, hmv, hbw, hqm, hqv, hmax⟩ := mov_facts HOK.out hw
                  rw [hmv] at p3
                  obtain rfl : m2 = m := by have h1 := p3.len; rw [ints_length, movTo_len] at h1; omega
                  have R3 := p3.reads (B := wr.heap.size) (by omega)
                  obtain ⟨g5, rfl, _, _, hg5⟩ := p5.lt (by omega)
                  have hcap := p5.cap
                  rw [hmv, hbw]
                  dsimp only
                  have HQV := Lib.hid hqv
                  have HMX := Lib.hid hmax
                  clear hw hmv hbw hqv hmax p3 p5
                  go_wp2
                  rename World => wo
                  go_loopw [28] (fun i wr => ∃ k : Nat, k ≤ m2 ∧ i = .int .i64 (k : Int) ∧ Below wo.heap.size wo wr) (fun i _ => m2 - (intOf i).toNat)
                  case atStart => exact ⟨0, Nat.zero_le _, rfl, Below.refl _ _⟩
                  case round =>
                    obtain ⟨k, hk, rfl, hbel⟩ := hrel
                    have HBm := Lib.hid hbel
                    have r3 := R3.on (Nat.le_refl _) hbel
                    have r5 := R5.on (Nat.le_refl _) hbel
                    clear hbel
                    by_cases hlt : k < m2
                    · obtain ⟨y, b3, o3, he3, rfl, hb3, c3⟩ := int_at r3 hlt
                      obtain rfl : sumTo (((hoursOf l).drop k).take h) h = y := by rw [movTo_get _ _ _ _ hlt] at he3; injection he3
                      have hyv := HMX.out k _ hlt he3
                      have hys : decide (v < sumTo (((hoursOf l).drop k).take h) h) = false := by rw [decide_eq_false_iff_not]; omega
                      have RS := r5.sub (i := k) (m := h) (by omega)
                      rw [drop_take_ints, Nat.zero_add] at RS
                      have HRS := Lib.hid RS
                      have HC2 := Lib.hid (show ∀ (c' : Nat) W, (∃ m, W = wr.drewN m) → Calls Tryd.prog 43 #[.slice (some ⟨g5, k, none⟩) h c'] W fun e w' => e = .returned (.int .i64 (sumTo (((hoursOf l).drop k).take h) h)) ∧ w' = W from fun c' W hW => by
                        obtain ⟨j, rfl⟩ := hW
                        exact (f6sum_any _ _ _ _ _ _ (HRS.out.keep (w' := wr.drewN j) fun _ _ => rfl) (by omega) (fun y hy => by have := hours_bd' HOK.out y (part_mem hy); omega)).mono fun e w' hh => ⟨hh.1, hh.2.symm⟩)
                      have hcap2 : ¬ d5 = k := by omega
                      have hd1 : (k : Int) + (h : Int) ≤ d5 := by omega
                      have hd0 : (0 : Int) ≤ (k : Int) + (h : Int) := by omega
                      have hd2 : (k : Int) ≤ (k : Int) + (h : Int) := by omega
                      have hnn : ((k : Int) + (h : Int)).toNat = k + h := by omega
                      have hsub : k + h - k = h := by omega
                      have hw1 : IntKind.i64.wrap ((k : Int) + (h : Int)) = (k : Int) + (h : Int) := by rw [IntKind.wrap_i64]; omega
                      have hk0 : (0 : Int) ≤ k := by omega
                      have hk1 : (k : Int) < m2 := by omega
                      generalize sumTo (((hoursOf l).drop k).take h) h = S at *
                      clear he3 r3 r5 RS hyv
                      go_wp2_with fail
                      go_quiet ((go_at_call 43; exact Calls.quiet_of_same (HC2.out _ _ ⟨_, rfl⟩)))
                      clear hw1 hnn hsub hys hcap2
                      go_wp2
                      go_roundw
                      case rel => exact ⟨k + 1, by omega, by go_num, below_drewN HBm.out _⟩
                      case measure => simp [intOf]; omega
                    · obtain rfl : k = m2 := by omega
                      obtain ⟨y, b3, o3, he3, rfl, hb3, c3⟩ := int_at r3 hqm
                      obtain rfl : v = y := by rw [HQV.out] at he3; injection he3
                      have hq0 : (0 : Int) ≤ q := by omega
                      have hq1 : (q : Int) < k := by omega
                      clear he3 r3 r5
                      go_wp2
                      go_ret
                      exact ⟨ret_bool (by simp), bnext HH.out HBm.out (Nat.le_refl _)⟩

end Go.Proofs.YtjmlcobbjpmjpaaDoor.lawCounts
