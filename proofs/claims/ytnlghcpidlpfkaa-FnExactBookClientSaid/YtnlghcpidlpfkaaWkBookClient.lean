/- FnExactBookClient: for all arguments the program's BookClient returns what the reference's returns; the arguments are left as they were. -/
import Derived.Test.YtnlghcpidlpfkaaBkW
import Derived.Deep.DeepCutAuto
import Derived.Orders
set_option linter.unusedVariables false
set_option linter.unusedSimpArgs false
namespace Go.Proofs.Ytnlghcpidlpfkaa.lawBookClient
open Go.RowKit Go.Proofs.Ytnlghcpidlpfkaa

set_option maxHeartbeats 4000000 in
set_option maxRecDepth 100000 in
theorem walk (A0 : Option Addr) (n0 c0 : Nat) (l0 : List Bk) (x1 : Bk) (w : World) (h0 : Reads w w.heap.size 3 A0 n0 (bks l0)) (hn0 : n0 ≤ 9223372036854775807) (hd0 : ∀ x ∈ l0, x.good) (hx1 : x1.good) :
    Calls Try.prog 4 #[.slice A0 n0 c0, .agg #[.int .i64 x1.day, .string x1.client, .int .i64 x1.amount]] w fun e w' => e = .returned (.bool true) ∧ Below w.heap.size w w' := by
  go_enter Try.func4, Try.ntmps4
  go_wp2_with fail
  obtain ⟨v1, hv1⟩ : ∃ y, w.alloc (.cells #[.int .i64 x1.day, .string x1.client, .int .i64 x1.amount] 38) = y := ⟨_, rfl⟩
  rw [hv1]
  have b1 : Below w.heap.size w v1 := by rw [← hv1]; exact (Below.refl _ _).alloc (Nat.le_refl _) _
  have y1 : Blk v1 w.heap.size 38 #[.int .i64 x1.day, .string x1.client, .int .i64 x1.amount] := by rw [← hv1]; exact Blk.new _ _ _
  clear hv1
  have yl1 := y1.lt
  have z1 := b1.size
  have H1 := Lib.hid (bnext (Below.refl w.heap.size w) b1 (Nat.le_refl _))
  clear b1
  go_wp2_with fail
  refine (szBookingS_any _ _ _ l0 _ w.heap.size _ (h0.on (Nat.le_refl _) H1.out) (by omega) (by omega) hn0 H1.out.size hd0).mono ?_
  rintro e w2 ⟨r0, rfl, b2, hr0⟩
  have z2 := b2.size
  replace y1 := y1.on b2
  have H2 := Lib.hid (bnext H1.out b2 (Nat.le_refl _))
  clear b2
  rcases hr0 with hr0 | ⟨hr0, hq0, hs0, hg0⟩
  · go_wp2
    go_ret
    exact ⟨rfl, H2.out⟩
  · have hm0 : n0 ≤ 1048576 := by omega
    have hc1_0 := y1.cellAt 0 (by simp)
    have hc1_1 := y1.cellAt 1 (by simp)
    have hc1_2 := y1.cellAt 2 (by simp)
    go_wp2_with fail
    refine (szBooking_any _ _ _ (by omega) (by omega) hx1).mono ?_
    rintro e w3 ⟨r1, rfl, b3, hr1⟩
    clear hc1_0 hc1_1 hc1_2
    have z3 := b3.size
    replace y1 := y1.on b3
    have H3 := Lib.hid (bnext H2.out b3 (Nat.le_refl _))
    clear b3
    rcases hr1 with hr1 | ⟨hr1, hq1, hs1, hg1⟩
    · go_wp2
      go_ret
      exact ⟨rfl, H3.out⟩
    · skip
      have hc1_0 := y1.cellAt 0 (by simp)
      have hc1_1 := y1.cellAt 1 (by simp)
      have hc1_2 := y1.cellAt 2 (by simp)
      go_upto_region 8 with fail
      go_cut [6, 7] (fun sa sb wx => ∃ (A' : Option Addr) (m d : Nat), sa = .slice A' m d ∧ sb = .int .i64 (bookF l0 x1).2 ∧ Sl wx w3.heap.size wx.heap.size 45 3 A' m d (bks (bookF l0 x1).1) ∧ Below w3.heap.size w3 wx)
      case first =>
        refine wp_region_any (by kernel_rfl) ?_
        try (change wpAny _ _ _ _ _ _ _ (World.drew _))
        refine wpAny_take (i := 0) (v := ?_) rfl (by kernel_rfl) (by kernel_rfl) (by kernel_rfl) (fun _ _ _ h => h) (Or.inl ⟨by kernel_rfl, ?_⟩) ?_
        rotate_left 1
        · intro w; go_simp; try with_reducible rfl
        try simp only [Act.put, List.getElem_toArray, List.getElem_cons_succ, List.getElem_cons_zero, List.setIfInBounds_toArray, List.set_cons_zero, List.set_cons_succ]
        refine wpAny_ready (rs := [1, 2]) (by kernel_rfl) (by simp) (AllReady.cons rfl (fun K hK => ?_) (AllReady.cons rfl (fun K hK => ?_) AllReady.nil))
        · go_simp
          refine (toBookingS_any _ _ _ w.heap.size l0 _ (h0.on (Nat.le_refl _) (bnext H3.out ((Below.refl w3.heap.size w3).drew) (Nat.le_refl _))) (bnext H3.out ((Below.refl w3.heap.size w3).drew) (Nat.le_refl _)).size hm0).mono ?_
          rintro e u1 ⟨gq, rfl, sA, bA⟩
          have k0 := cell_on bA hc1_0
          have k1 := cell_on bA hc1_1
          have k2 := cell_on bA hc1_2
          have HbA := Lib.hid (bnext ((Below.refl w3.heap.size w3).drew) bA (Nat.le_refl _))
          go_wp2
          try simp only [Act.put, List.getElem_toArray, List.getElem_cons_succ, List.getElem_cons_zero, List.setIfInBounds_toArray, List.set_cons_zero, List.set_cons_succ]
          refine wpAny_ready (rs := [2]) (by kernel_rfl) (by simp) (AllReady.cons rfl (fun K hK => ?_) AllReady.nil)
          go_simp
          refine hK _ _ ?_
          clear hK K
          try simp only [Act.put, List.getElem_toArray, List.getElem_cons_succ, List.getElem_cons_zero, List.setIfInBounds_toArray, List.set_cons_zero, List.set_cons_succ]
          refine wpAny_ready (rs := [3]) (by kernel_rfl) (by simp) (AllReady.cons rfl (fun K hK => ?_) AllReady.nil)
          go_simp
          refine (toBooking_any _ _).mono ?_
          rintro e u2 ⟨rfl, bV⟩
          replace sA := sA.on bV
          have zV := bV.size
          have HbV := Lib.hid (bnext (HbA.out) bV (Nat.le_refl _))
          go_wp2
          try simp only [Act.put, List.getElem_toArray, List.getElem_cons_succ, List.getElem_cons_zero, List.setIfInBounds_toArray, List.set_cons_zero, List.set_cons_succ]
          refine wpAny_ready (rs := [4]) (by kernel_rfl) (by simp) (AllReady.cons rfl (fun K hK => ?_) AllReady.nil)
          go_simp
          have HsA := Lib.hid sA
          refine (specBookClient_any _ _ _ l0 x1 _ _ (sA.reads (by omega)) (Nat.le_refl _) hm0 hg0 hx1 hg1).mono ?_
          rintro e u3 ⟨A', m', d', rfl, sR, bR⟩
          have HR := Lib.hid (And.intro (sR.wide HbV.out.size (Nat.le_refl _)) (bnext HbV.out bR (Nat.le_refl _)))
          clear sR bR sA bA bV
          go_wp2
          try simp only [Act.put, List.getElem_toArray, List.getElem_cons_succ, List.getElem_cons_zero, List.setIfInBounds_toArray, List.set_cons_zero, List.set_cons_succ]
          refine wpAny_take (i := 5) (v := ?_) rfl (by kernel_rfl) (by kernel_rfl) (by kernel_rfl) (fun _ _ _ h => h) (Or.inl ⟨by kernel_rfl, ?_⟩) ?_
          rotate_left 1
          · intro w; go_simp; try with_reducible rfl
          try simp only [Act.put, List.getElem_toArray, List.getElem_cons_succ, List.getElem_cons_zero, List.setIfInBounds_toArray, List.set_cons_zero, List.set_cons_succ]
          refine wpAny_take (i := 6) (v := ?_) rfl (by kernel_rfl) (by kernel_rfl) (by kernel_rfl) (fun _ _ _ h => h) (Or.inl ⟨by kernel_rfl, ?_⟩) ?_
          rotate_left 1
          · intro w; go_simp; try with_reducible rfl
          try simp only [Act.put, List.getElem_toArray, List.getElem_cons_succ, List.getElem_cons_zero, List.setIfInBounds_toArray, List.set_cons_zero, List.set_cons_succ]
          refine wpAny_take (i := 7) (v := ?_) rfl (by kernel_rfl) (by kernel_rfl) (by kernel_rfl) (fun _ _ _ h => h) (Or.inl ⟨by kernel_rfl, ?_⟩) ?_
          rotate_left 1
          · intro w; go_simp; try with_reducible rfl
          try simp only [Act.put, List.getElem_toArray, List.getElem_cons_succ, List.getElem_cons_zero, List.setIfInBounds_toArray, List.set_cons_zero, List.set_cons_succ]
          refine wpAny_take (i := 8) (v := ?_) rfl (by kernel_rfl) (by kernel_rfl) (by kernel_rfl) (fun _ _ _ h => h) (Or.inl ⟨by kernel_rfl, ?_⟩) ?_
          rotate_left 1
          · intro w; go_simp; try with_reducible rfl
          try simp only [Act.put, List.getElem_toArray, List.getElem_cons_succ, List.getElem_cons_zero, List.setIfInBounds_toArray, List.set_cons_zero, List.set_cons_succ]
          refine wpAny_take (i := 9) (v := ?_) rfl (by kernel_rfl) (by kernel_rfl) (by kernel_rfl) (fun _ _ _ h => h) (Or.inl ⟨by kernel_rfl, ?_⟩) ?_
          rotate_left 1
          · intro w; go_simp; try with_reducible rfl
          try simp only [Act.put, List.getElem_toArray, List.getElem_cons_succ, List.getElem_cons_zero, List.setIfInBounds_toArray, List.set_cons_zero, List.set_cons_succ]
          refine wpAny_done (by kernel_rfl) ?_ _
          go_wp2_with fail
          go_meet
          exact ⟨_, _, _, rfl, rfl, HR.out.1, HR.out.2⟩
        · go_simp
          refine hK _ _ ?_
          clear hK K
          try simp only [Act.put, List.getElem_toArray, List.getElem_cons_succ, List.getElem_cons_zero, List.setIfInBounds_toArray, List.set_cons_zero, List.set_cons_succ]
          refine wpAny_ready (rs := [1]) (by kernel_rfl) (by simp) (AllReady.cons rfl (fun K hK => ?_) AllReady.nil)
          go_simp
          refine (toBookingS_any _ _ _ w.heap.size l0 _ (h0.on (Nat.le_refl _) (bnext H3.out ((Below.refl w3.heap.size w3).drew) (Nat.le_refl _))) (bnext H3.out ((Below.refl w3.heap.size w3).drew) (Nat.le_refl _)).size hm0).mono ?_
          rintro e u1 ⟨gq, rfl, sA, bA⟩
          have HbA := Lib.hid (bnext ((Below.refl w3.heap.size w3).drew) bA (Nat.le_refl _))
          go_wp2
          try simp only [Act.put, List.getElem_toArray, List.getElem_cons_succ, List.getElem_cons_zero, List.setIfInBounds_toArray, List.set_cons_zero, List.set_cons_succ]
          refine wpAny_ready (rs := [3]) (by kernel_rfl) (by simp) (AllReady.cons rfl (fun K hK => ?_) AllReady.nil)
          go_simp
          refine (toBooking_any _ _).mono ?_
          rintro e u2 ⟨rfl, bV⟩
          replace sA := sA.on bV
          have zV := bV.size
          have HbV := Lib.hid (bnext (HbA.out) bV (Nat.le_refl _))
          go_wp2
          try simp only [Act.put, List.getElem_toArray, List.getElem_cons_succ, List.getElem_cons_zero, List.setIfInBounds_toArray, List.set_cons_zero, List.set_cons_succ]
          refine wpAny_ready (rs := [4]) (by kernel_rfl) (by simp) (AllReady.cons rfl (fun K hK => ?_) AllReady.nil)
          go_simp
          have HsA := Lib.hid sA
          refine (specBookClient_any _ _ _ l0 x1 _ _ (sA.reads (by omega)) (Nat.le_refl _) hm0 hg0 hx1 hg1).mono ?_
          rintro e u3 ⟨A', m', d', rfl, sR, bR⟩
          have HR := Lib.hid (And.intro (sR.wide HbV.out.size (Nat.le_refl _)) (bnext HbV.out bR (Nat.le_refl _)))
          clear sR bR sA bA bV
          go_wp2
          try simp only [Act.put, List.getElem_toArray, List.getElem_cons_succ, List.getElem_cons_zero, List.setIfInBounds_toArray, List.set_cons_zero, List.set_cons_succ]
          refine wpAny_take (i := 5) (v := ?_) rfl (by kernel_rfl) (by kernel_rfl) (by kernel_rfl) (fun _ _ _ h => h) (Or.inl ⟨by kernel_rfl, ?_⟩) ?_
          rotate_left 1
          · intro w; go_simp; try with_reducible rfl
          try simp only [Act.put, List.getElem_toArray, List.getElem_cons_succ, List.getElem_cons_zero, List.setIfInBounds_toArray, List.set_cons_zero, List.set_cons_succ]
          refine wpAny_take (i := 6) (v := ?_) rfl (by kernel_rfl) (by kernel_rfl) (by kernel_rfl) (fun _ _ _ h => h) (Or.inl ⟨by kernel_rfl, ?_⟩) ?_
          rotate_left 1
          · intro w; go_simp; try with_reducible rfl
          try simp only [Act.put, List.getElem_toArray, List.getElem_cons_succ, List.getElem_cons_zero, List.setIfInBounds_toArray, List.set_cons_zero, List.set_cons_succ]
          refine wpAny_take (i := 7) (v := ?_) rfl (by kernel_rfl) (by kernel_rfl) (by kernel_rfl) (fun _ _ _ h => h) (Or.inl ⟨by kernel_rfl, ?_⟩) ?_
          rotate_left 1
          · intro w; go_simp; try with_reducible rfl
          try simp only [Act.put, List.getElem_toArray, List.getElem_cons_succ, List.getElem_cons_zero, List.setIfInBounds_toArray, List.set_cons_zero, List.set_cons_succ]
          refine wpAny_take (i := 8) (v := ?_) rfl (by kernel_rfl) (by kernel_rfl) (by kernel_rfl) (fun _ _ _ h => h) (Or.inl ⟨by kernel_rfl, ?_⟩) ?_
          rotate_left 1
          · intro w; go_simp; try with_reducible rfl
          try simp only [Act.put, List.getElem_toArray, List.getElem_cons_succ, List.getElem_cons_zero, List.setIfInBounds_toArray, List.set_cons_zero, List.set_cons_succ]
          refine wpAny_take (i := 9) (v := ?_) rfl (by kernel_rfl) (by kernel_rfl) (by kernel_rfl) (fun _ _ _ h => h) (Or.inl ⟨by kernel_rfl, ?_⟩) ?_
          rotate_left 1
          · intro w; go_simp; try with_reducible rfl
          try simp only [Act.put, List.getElem_toArray, List.getElem_cons_succ, List.getElem_cons_zero, List.setIfInBounds_toArray, List.set_cons_zero, List.set_cons_succ]
          refine wpAny_done (by kernel_rfl) ?_ _
          go_wp2_with fail
          go_meet
          exact ⟨_, _, _, rfl, rfl, HR.out.1, HR.out.2⟩
      case rest =>
        obtain ⟨w4, rfl⟩ : ∃ y : World, y = wc := ⟨_, rfl⟩
        obtain ⟨A4', m4, d4, rfl, rfl, s4, b4⟩ := hcut
        clear hc1_0 hc1_1 hc1_2
        have z4 := b4.size
        replace y1 := y1.on b4
        have H4 := Lib.hid (bnext H3.out b4 (Nat.le_refl _))
        clear b4
        go_wp2_with fail
        refine (toBookingS_any _ _ _ w.heap.size l0 _ (h0.on (Nat.le_refl _) H4.out) H4.out.size hm0).mono ?_
        rintro e w5 ⟨g5, rfl, s5, b5⟩
        have z5 := b5.size
        replace y1 := y1.on b5
        replace s4 := s4.on b5
        have H5 := Lib.hid (bnext H4.out b5 (Nat.le_refl _))
        clear b5
        have hc1_0 := y1.cellAt 0 (by simp)
        have hc1_1 := y1.cellAt 1 (by simp)
        have hc1_2 := y1.cellAt 2 (by simp)
        go_wp2_with fail
        refine (toBooking_any _ _).mono ?_
        rintro e w6 ⟨rfl, b6⟩
        clear hc1_0 hc1_1 hc1_2
        have z6 := b6.size
        replace y1 := y1.on b6
        replace s4 := s4.on b6
        replace s5 := s5.on b6
        have H6 := Lib.hid (bnext H5.out b6 (Nat.le_refl _))
        clear b6
        go_wp2_with fail
        refine (implBookClient_any _ _ _ l0 x1 _ _ (s5.reads (by omega)) (Nat.le_refl _) hm0 hg0 hx1 hg1).mono ?_
        rintro e w7 ⟨A7', m7, d7, rfl, s7, b7⟩
        have z7 := b7.size
        replace y1 := y1.on b7
        replace s4 := s4.on b7
        replace s5 := s5.on b7
        have H7 := Lib.hid (bnext H6.out b7 (Nat.le_refl _))
        clear b7
        have hmm : m4 ≤ 1048576 := cntBookClient_len s4.len
        obtain rfl : m4 = m7 := by have h1 := s7.len; have h2 := s4.len; omega
        go_wp2_with fail
        refine (eqBookingS_same _ _ _ _ _ _ _ _ (s7.reads (by omega)) (s4.reads (by omega)) hmm (Nat.le_refl _)).mono ?_
        rintro e w8 ⟨rfl, b8⟩
        have z8 := b8.size
        replace y1 := y1.on b8
        replace s4 := s4.on b8
        replace s5 := s5.on b8
        replace s7 := s7.on b8
        have H8 := Lib.hid (bnext H7.out b8 (Nat.le_refl _))
        clear b8
        go_wp2_with fail
        refine (toBookingS_any _ _ _ w.heap.size l0 _ (h0.on (Nat.le_refl _) H8.out) H8.out.size hm0).mono ?_
        rintro e w9 ⟨g9, rfl, s9, b9⟩
        have z9 := b9.size
        replace y1 := y1.on b9
        replace s4 := s4.on b9
        replace s5 := s5.on b9
        replace s7 := s7.on b9
        have H9 := Lib.hid (bnext H8.out b9 (Nat.le_refl _))
        clear b9
        go_wp2_with fail
        refine (eqBookingS_same _ _ _ _ _ _ l0 _ (s5.reads (by omega)) (s9.reads (by omega)) hm0 (Nat.le_refl _)).mono ?_
        rintro e w10 ⟨rfl, b10⟩
        have z10 := b10.size
        replace y1 := y1.on b10
        replace s4 := s4.on b10
        replace s5 := s5.on b10
        replace s7 := s7.on b10
        replace s9 := s9.on b10
        have H10 := Lib.hid (bnext H9.out b10 (Nat.le_refl _))
        clear b10
        clear s9
        go_wp2_with fail
        refine (markBookingS_any _ _ _ _ _ 1 _ _ s5 hm0 (by omega) (by omega)).mono ?_
        rintro e w11 ⟨q11, rfl, hqa11, hqb11, b11⟩
        clear s5
        have z11 := b11.size
        replace y1 := y1.apart b11 (by omega)
        replace s4 := s4.apart b11 (by omega)
        replace s7 := s7.apart b11 (by omega)
        have H11 := Lib.hid (bonly H10.out b11 (by omega) (Nat.le_refl _))
        clear b11
        go_wp2_with fail
        refine (eqBookingS_same _ _ _ _ _ _ _ _ (s7.reads (by omega)) (s4.reads (by omega)) hmm (Nat.le_refl _)).mono ?_
        rintro e w12 ⟨rfl, b12⟩
        have z12 := b12.size
        replace y1 := y1.on b12
        replace s4 := s4.on b12
        replace s7 := s7.on b12
        have H12 := Lib.hid (bnext H11.out b12 (Nat.le_refl _))
        clear b12
        go_wp2_with fail
        refine (markBookingSr_any _ _ _ _ _ _ _ s7 hmm).mono ?_
        rintro e w13 ⟨rfl, t7, b13⟩
        have z13 := b13.size
        replace y1 := y1.apart b13 (by omega)
        replace s4 := s4.apart b13 (by omega)
        have H13 := Lib.hid (bonly H12.out b13 (by omega) (Nat.le_refl _))
        clear b13
        go_wp2_with fail
        refine (heldBookingS_any _ _ _ _ _ (t7.reads (by omega)) hmm (Nat.le_refl _)).mono ?_
        rintro e w14 ⟨rfl, b14⟩
        have z14 := b14.size
        replace y1 := y1.on b14
        replace s4 := s4.on b14
        replace t7 := t7.on b14
        have H14 := Lib.hid (bnext H13.out b14 (Nat.le_refl _))
        clear b14
        have hc1_0 := y1.cellAt 0 (by simp)
        have hc1_1 := y1.cellAt 1 (by simp)
        have hc1_2 := y1.cellAt 2 (by simp)
        go_upto_region 27 with fail
        go_cut [14, 15] (fun sa sb wx => ∃ (A' : Option Addr) (m d : Nat), sa = .slice A' m d ∧ sb = .int .i64 (bookF l0 x1).2 ∧ Sl wx w14.heap.size wx.heap.size 45 3 A' m d (bks (bookF l0 x1).1) ∧ Below w14.heap.size w14 wx)
        case first =>
          refine wp_region_any (by kernel_rfl) ?_
          try (change wpAny _ _ _ _ _ _ _ (World.drew _))
          refine wpAny_take (i := 0) (v := ?_) rfl (by kernel_rfl) (by kernel_rfl) (by kernel_rfl) (fun _ _ _ h => h) (Or.inl ⟨by kernel_rfl, ?_⟩) ?_
          rotate_left 1
          · intro w; go_simp; try with_reducible rfl
          try simp only [Act.put, List.getElem_toArray, List.getElem_cons_succ, List.getElem_cons_zero, List.setIfInBounds_toArray, List.set_cons_zero, List.set_cons_succ]
          refine wpAny_ready (rs := [1, 2]) (by kernel_rfl) (by simp) (AllReady.cons rfl (fun K hK => ?_) (AllReady.cons rfl (fun K hK => ?_) AllReady.nil))
          · go_simp
            refine (toBookingS_any _ _ _ w.heap.size l0 _ (h0.on (Nat.le_refl _) (bnext H14.out ((Below.refl w14.heap.size w14).drew) (Nat.le_refl _))) (bnext H14.out ((Below.refl w14.heap.size w14).drew) (Nat.le_refl _)).size hm0).mono ?_
            rintro e u1 ⟨gq, rfl, sA, bA⟩
            have k0 := cell_on bA hc1_0
            have k1 := cell_on bA hc1_1
            have k2 := cell_on bA hc1_2
            have HbA := Lib.hid (bnext ((Below.refl w14.heap.size w14).drew) bA (Nat.le_refl _))
            go_wp2
            try simp only [Act.put, List.getElem_toArray, List.getElem_cons_succ, List.getElem_cons_zero, List.setIfInBounds_toArray, List.set_cons_zero, List.set_cons_succ]
            refine wpAny_ready (rs := [2]) (by kernel_rfl) (by simp) (AllReady.cons rfl (fun K hK => ?_) AllReady.nil)
            go_simp
            refine hK _ _ ?_
            clear hK K
            try simp only [Act.put, List.getElem_toArray, List.getElem_cons_succ, List.getElem_cons_zero, List.setIfInBounds_toArray, List.set_cons_zero, List.set_cons_succ]
            refine wpAny_ready (rs := [3]) (by kernel_rfl) (by simp) (AllReady.cons rfl (fun K hK => ?_) AllReady.nil)
            go_simp
            refine (toBooking_any _ _).mono ?_
            rintro e u2 ⟨rfl, bV⟩
            replace sA := sA.on bV
            have zV := bV.size
            have HbV := Lib.hid (bnext (HbA.out) bV (Nat.le_refl _))
            go_wp2
            try simp only [Act.put, List.getElem_toArray, List.getElem_cons_succ, List.getElem_cons_zero, List.setIfInBounds_toArray, List.set_cons_zero, List.set_cons_succ]
            refine wpAny_ready (rs := [4]) (by kernel_rfl) (by simp) (AllReady.cons rfl (fun K hK => ?_) AllReady.nil)
            go_simp
            have HsA := Lib.hid sA
            refine (implBookClient_any _ _ _ l0 x1 _ _ (sA.reads (by omega)) (Nat.le_refl _) hm0 hg0 hx1 hg1).mono ?_
            rintro e u3 ⟨A', m', d', rfl, sR, bR⟩
            have HR := Lib.hid (And.intro (sR.wide HbV.out.size (Nat.le_refl _)) (bnext HbV.out bR (Nat.le_refl _)))
            clear sR bR sA bA bV
            go_wp2
            try simp only [Act.put, List.getElem_toArray, List.getElem_cons_succ, List.getElem_cons_zero, List.setIfInBounds_toArray, List.set_cons_zero, List.set_cons_succ]
            refine wpAny_take (i := 5) (v := ?_) rfl (by kernel_rfl) (by kernel_rfl) (by kernel_rfl) (fun _ _ _ h => h) (Or.inl ⟨by kernel_rfl, ?_⟩) ?_
            rotate_left 1
            · intro w; go_simp; try with_reducible rfl
            try simp only [Act.put, List.getElem_toArray, List.getElem_cons_succ, List.getElem_cons_zero, List.setIfInBounds_toArray, List.set_cons_zero, List.set_cons_succ]
            refine wpAny_take (i := 6) (v := ?_) rfl (by kernel_rfl) (by kernel_rfl) (by kernel_rfl) (fun _ _ _ h => h) (Or.inl ⟨by kernel_rfl, ?_⟩) ?_
            rotate_left 1
            · intro w; go_simp; try with_reducible rfl
            try simp only [Act.put, List.getElem_toArray, List.getElem_cons_succ, List.getElem_cons_zero, List.setIfInBounds_toArray, List.set_cons_zero, List.set_cons_succ]
            refine wpAny_take (i := 7) (v := ?_) rfl (by kernel_rfl) (by kernel_rfl) (by kernel_rfl) (fun _ _ _ h => h) (Or.inl ⟨by kernel_rfl, ?_⟩) ?_
            rotate_left 1
            · intro w; go_simp; try with_reducible rfl
            try simp only [Act.put, List.getElem_toArray, List.getElem_cons_succ, List.getElem_cons_zero, List.setIfInBounds_toArray, List.set_cons_zero, List.set_cons_succ]
            refine wpAny_take (i := 8) (v := ?_) rfl (by kernel_rfl) (by kernel_rfl) (by kernel_rfl) (fun _ _ _ h => h) (Or.inl ⟨by kernel_rfl, ?_⟩) ?_
            rotate_left 1
            · intro w; go_simp; try with_reducible rfl
            try simp only [Act.put, List.getElem_toArray, List.getElem_cons_succ, List.getElem_cons_zero, List.setIfInBounds_toArray, List.set_cons_zero, List.set_cons_succ]
            refine wpAny_take (i := 9) (v := ?_) rfl (by kernel_rfl) (by kernel_rfl) (by kernel_rfl) (fun _ _ _ h => h) (Or.inl ⟨by kernel_rfl, ?_⟩) ?_
            rotate_left 1
            · intro w; go_simp; try with_reducible rfl
            try simp only [Act.put, List.getElem_toArray, List.getElem_cons_succ, List.getElem_cons_zero, List.setIfInBounds_toArray, List.set_cons_zero, List.set_cons_succ]
            refine wpAny_done (by kernel_rfl) ?_ _
            go_wp2_with fail
            go_meet
            exact ⟨_, _, _, rfl, rfl, HR.out.1, HR.out.2⟩
          · go_simp
            refine hK _ _ ?_
            clear hK K
            try simp only [Act.put, List.getElem_toArray, List.getElem_cons_succ, List.getElem_cons_zero, List.setIfInBounds_toArray, List.set_cons_zero, List.set_cons_succ]
            refine wpAny_ready (rs := [1]) (by kernel_rfl) (by simp) (AllReady.cons rfl (fun K hK => ?_) AllReady.nil)
            go_simp
            refine (toBookingS_any _ _ _ w.heap.size l0 _ (h0.on (Nat.le_refl _) (bnext H14.out ((Below.refl w14.heap.size w14).drew) (Nat.le_refl _))) (bnext H14.out ((Below.refl w14.heap.size w14).drew) (Nat.le_refl _)).size hm0).mono ?_
            rintro e u1 ⟨gq, rfl, sA, bA⟩
            have HbA := Lib.hid (bnext ((Below.refl w14.heap.size w14).drew) bA (Nat.le_refl _))
            go_wp2
            try simp only [Act.put, List.getElem_toArray, List.getElem_cons_succ, List.getElem_cons_zero, List.setIfInBounds_toArray, List.set_cons_zero, List.set_cons_succ]
            refine wpAny_ready (rs := [3]) (by kernel_rfl) (by simp) (AllReady.cons rfl (fun K hK => ?_) AllReady.nil)
            go_simp
            refine (toBooking_any _ _).mono ?_
            rintro e u2 ⟨rfl, bV⟩
            replace sA := sA.on bV
            have zV := bV.size
            have HbV := Lib.hid (bnext (HbA.out) bV (Nat.le_refl _))
            go_wp2
            try simp only [Act.put, List.getElem_toArray, List.getElem_cons_succ, List.getElem_cons_zero, List.setIfInBounds_toArray, List.set_cons_zero, List.set_cons_succ]
            refine wpAny_ready (rs := [4]) (by kernel_rfl) (by simp) (AllReady.cons rfl (fun K hK => ?_) AllReady.nil)
            go_simp
            have HsA := Lib.hid sA
            refine (implBookClient_any _ _ _ l0 x1 _ _ (sA.reads (by omega)) (Nat.le_refl _) hm0 hg0 hx1 hg1).mono ?_
            rintro e u3 ⟨A', m', d', rfl, sR, bR⟩
            have HR := Lib.hid (And.intro (sR.wide HbV.out.size (Nat.le_refl _)) (bnext HbV.out bR (Nat.le_refl _)))
            clear sR bR sA bA bV
            go_wp2
            try simp only [Act.put, List.getElem_toArray, List.getElem_cons_succ, List.getElem_cons_zero, List.setIfInBounds_toArray, List.set_cons_zero, List.set_cons_succ]
            refine wpAny_take (i := 5) (v := ?_) rfl (by kernel_rfl) (by kernel_rfl) (by kernel_rfl) (fun _ _ _ h => h) (Or.inl ⟨by kernel_rfl, ?_⟩) ?_
            rotate_left 1
            · intro w; go_simp; try with_reducible rfl
            try simp only [Act.put, List.getElem_toArray, List.getElem_cons_succ, List.getElem_cons_zero, List.setIfInBounds_toArray, List.set_cons_zero, List.set_cons_succ]
            refine wpAny_take (i := 6) (v := ?_) rfl (by kernel_rfl) (by kernel_rfl) (by kernel_rfl) (fun _ _ _ h => h) (Or.inl ⟨by kernel_rfl, ?_⟩) ?_
            rotate_left 1
            · intro w; go_simp; try with_reducible rfl
            try simp only [Act.put, List.getElem_toArray, List.getElem_cons_succ, List.getElem_cons_zero, List.setIfInBounds_toArray, List.set_cons_zero, List.set_cons_succ]
            refine wpAny_take (i := 7) (v := ?_) rfl (by kernel_rfl) (by kernel_rfl) (by kernel_rfl) (fun _ _ _ h => h) (Or.inl ⟨by kernel_rfl, ?_⟩) ?_
            rotate_left 1
            · intro w; go_simp; try with_reducible rfl
            try simp only [Act.put, List.getElem_toArray, List.getElem_cons_succ, List.getElem_cons_zero, List.setIfInBounds_toArray, List.set_cons_zero, List.set_cons_succ]
            refine wpAny_take (i := 8) (v := ?_) rfl (by kernel_rfl) (by kernel_rfl) (by kernel_rfl) (fun _ _ _ h => h) (Or.inl ⟨by kernel_rfl, ?_⟩) ?_
            rotate_left 1
            · intro w; go_simp; try with_reducible rfl
            try simp only [Act.put, List.getElem_toArray, List.getElem_cons_succ, List.getElem_cons_zero, List.setIfInBounds_toArray, List.set_cons_zero, List.set_cons_succ]
            refine wpAny_take (i := 9) (v := ?_) rfl (by kernel_rfl) (by kernel_rfl) (by kernel_rfl) (fun _ _ _ h => h) (Or.inl ⟨by kernel_rfl, ?_⟩) ?_
            rotate_left 1
            · intro w; go_simp; try with_reducible rfl
            try simp only [Act.put, List.getElem_toArray, List.getElem_cons_succ, List.getElem_cons_zero, List.setIfInBounds_toArray, List.set_cons_zero, List.set_cons_succ]
            refine wpAny_done (by kernel_rfl) ?_ _
            go_wp2_with fail
            go_meet
            exact ⟨_, _, _, rfl, rfl, HR.out.1, HR.out.2⟩
        case rest =>
          obtain ⟨w15, rfl⟩ : ∃ y : World, y = wc := ⟨_, rfl⟩
          obtain ⟨A15', m15, d15, rfl, rfl, s15, b15⟩ := hcut
          clear hc1_0 hc1_1 hc1_2
          have z15 := b15.size
          replace y1 := y1.on b15
          replace s4 := s4.on b15
          replace t7 := t7.on b15
          have H15 := Lib.hid (bnext H14.out b15 (Nat.le_refl _))
          clear b15
          obtain rfl : m4 = m15 := by have h1 := s15.len; have h2 := s4.len; omega
          go_wp2_with fail
          refine (eqBookingS_same _ _ _ _ _ _ _ _ (s15.reads (by omega)) (s4.reads (by omega)) hmm (Nat.le_refl _)).mono ?_
          rintro e w16 ⟨rfl, b16⟩
          have z16 := b16.size
          replace y1 := y1.on b16
          replace s4 := s4.on b16
          replace t7 := t7.on b16
          replace s15 := s15.on b16
          have H16 := Lib.hid (bnext H15.out b16 (Nat.le_refl _))
          clear b16
          go_wp2_with fail
          refine (heldBookingS_any _ _ _ _ _ (t7.reads (by omega)) hmm (Nat.le_refl _)).mono ?_
          rintro e w17 ⟨rfl, b17⟩
          have z17 := b17.size
          replace y1 := y1.on b17
          replace s4 := s4.on b17
          replace t7 := t7.on b17
          replace s15 := s15.on b17
          have H17 := Lib.hid (bnext H16.out b17 (Nat.le_refl _))
          clear b17
          go_wp2
          go_ret
          exact ⟨rfl, H17.out⟩

end Go.Proofs.Ytnlghcpidlpfkaa.lawBookClient
