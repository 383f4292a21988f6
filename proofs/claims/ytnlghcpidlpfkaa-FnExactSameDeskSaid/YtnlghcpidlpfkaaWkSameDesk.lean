/- FnExactSameDesk: for all arguments the program's SameDesk returns what the reference's returns; the arguments are left as they were. -/
import Derived.Test.YtnlghcpidlpfkaaDkH
import Derived.Deep.DeepCutAuto
import Derived.Orders
set_option linter.unusedVariables false
set_option linter.unusedSimpArgs false
namespace Go.Proofs.Ytnlghcpidlpfkaa.lawSameDesk
open Go.RowKit Go.Proofs.Ytnlghcpidlpfkaa

set_option maxHeartbeats 4000000 in
set_option maxRecDepth 100000 in
theorem walk (h0 : DkH) (d0 : Dk) (h1 : DkH) (d1 : Dk) (w : World) (hr0 : DkR w w.heap.size h0 d0) (ok0 : h0.ok) (lg0 : d0.log.size ≤ 9223372036854775807) (hr1 : DkR w w.heap.size h1 d1) (ok1 : h1.ok) (lg1 : d1.log.size ≤ 9223372036854775807) :
    Calls Try.prog 5 #[.agg #[.int .i64 d0.net.sta, .slice h0.A1 h0.n1 h0.c1, .slice h0.A2 h0.n2 h0.c2, .slice h0.A3 h0.n3 h0.c3, .string d0.log], .agg #[.int .i64 d1.net.sta, .slice h1.A1 h1.n1 h1.c1, .slice h1.A2 h1.n2 h1.c2, .slice h1.A3 h1.n3 h1.c3, .string d1.log]] w fun e w' => e = .returned (.bool true) ∧ Below w.heap.size w w' := by
  obtain ⟨W, hW, hz, k0, k1, hb⟩ := two_al w #[.int .i64 d0.net.sta, .slice h0.A1 h0.n1 h0.c1, .slice h0.A2 h0.n2 h0.c2, .slice h0.A3 h0.n3 h0.c3, .string d0.log] #[.int .i64 d1.net.sta, .slice h1.A1 h1.n1 h1.c1, .slice h1.A2 h1.n2 h1.c2, .slice h1.A3 h1.n3 h1.c3, .string d1.log] 56 56
  have HW := Lib.hid hW
  have y0 := k0
  have y1 := k1
  have H0 := Lib.hid hb
  have R0 := Lib.hid hr0
  have R1 := Lib.hid hr1
  clear hW k0 k1 hb hr0 hr1 hz
  go_enter Try.func5, Try.ntmps5
  go_wp2_with fail
  rw [← HW.out]
  refine (szDesk_any h0 d0 _ w.heap.size _ (R0.out.on (Nat.le_refl _) H0.out) ok0 H0.out.size (by omega) (by omega) lg0).mono ?_
  rintro e w1 ⟨r1, rfl, b1, hr1⟩
  replace y0 := y0.on b1
  replace y1 := y1.on b1
  have H1 := Lib.hid (bnext H0.out b1 (Nat.le_refl _))
  clear b1
  rcases hr1 with hr1 | ⟨p1, q1, S1⟩
  · go_wp2
    go_ret
    exact ⟨rfl, H1.out⟩
  have G1 := Lib.hid S1
  clear S1
  have m0 := y1.cellAt 0 (by simp)
  have m1 := y1.cellAt 1 (by simp)
  have m2 := y1.cellAt 2 (by simp)
  have m3 := y1.cellAt 3 (by simp)
  have m4 := y1.cellAt 4 (by simp)
  simp only [List.getElem_toArray, List.getElem_cons_zero, List.getElem_cons_succ] at m0 m1 m2 m3 m4
  go_wp2_with fail
  refine (szDesk_any h1 d1 _ w.heap.size _ (R1.out.on (Nat.le_refl _) H1.out) ok1 H1.out.size (by omega) (by omega) lg1).mono ?_
  rintro e w2 ⟨r2, rfl, b2, hr2⟩
  replace y0 := y0.on b2
  replace y1 := y1.on b2
  have H2 := Lib.hid (bnext H1.out b2 (Nat.le_refl _))
  clear b2
  rcases hr2 with hr2 | ⟨p2, q2, S2⟩
  · go_wp2
    go_ret
    exact ⟨rfl, H2.out⟩
  have G2 := Lib.hid S2
  clear S2
  clear m0 m1 m2 m3 m4
  have m0 := y0.cellAt 0 (by simp)
  have m1 := y0.cellAt 1 (by simp)
  have m2 := y0.cellAt 2 (by simp)
  have m3 := y0.cellAt 3 (by simp)
  have m4 := y0.cellAt 4 (by simp)
  simp only [List.getElem_toArray, List.getElem_cons_zero, List.getElem_cons_succ] at m0 m1 m2 m3 m4
  have k0 := y1.cellAt 0 (by simp)
  have k1 := y1.cellAt 1 (by simp)
  have k2 := y1.cellAt 2 (by simp)
  have k3 := y1.cellAt 3 (by simp)
  have k4 := y1.cellAt 4 (by simp)
  simp only [List.getElem_toArray, List.getElem_cons_zero, List.getElem_cons_succ] at k0 k1 k2 k3 k4
  go_upto_region 8 with fail
  go_cut [6] (fun s6 wx => s6 = .bool (sameDk d0 d1) ∧ Below w2.heap.size w2 wx)
  case first => as_aux_lemma =>
    refine wp_region_any (by kernel_rfl) ?_
    try (change wpAny _ _ _ _ _ _ _ (World.drew _))
    refine wpAny_ready (rs := [0, 2]) (by kernel_rfl) (by simp) (AllReady.cons rfl (fun K hK => ?_) (AllReady.cons rfl (fun K hK => ?_) AllReady.nil))
    · go_simp
      refine hK _ _ ?_
      clear hK K
      try simp only [Act.put, List.getElem_toArray, List.getElem_cons_succ, List.getElem_cons_zero, List.setIfInBounds_toArray, List.set_cons_zero, List.set_cons_succ]
      refine wpAny_ready (rs := [1, 2]) (by kernel_rfl) (by simp) (AllReady.cons rfl (fun K hK => ?_) (AllReady.cons rfl (fun K hK => ?_) AllReady.nil))
      · go_simp
        refine (toDesk_any h0 d0 w.heap.size _ (R0.out.on (Nat.le_refl _) (bnext H2.out ((Below.refl w2.heap.size w2).drew) (Nat.le_refl _))) G1.out (bnext H2.out ((Below.refl w2.heap.size w2).drew) (Nat.le_refl _)).size).mono ?_
        rintro e u1 ⟨h5, rfl, rA, gA, bA⟩
        have HbA := Lib.hid (bnext ((Below.refl w2.heap.size w2).drew) bA (Nat.le_refl _))
        have RA := Lib.hid rA
        have GA := Lib.hid gA
        have kk0 := cell_on bA k0
        have kk1 := cell_on bA k1
        have kk2 := cell_on bA k2
        have kk3 := cell_on bA k3
        have kk4 := cell_on bA k4
        clear bA rA gA
        go_wp2
        try simp only [Act.put, List.getElem_toArray, List.getElem_cons_succ, List.getElem_cons_zero, List.setIfInBounds_toArray, List.set_cons_zero, List.set_cons_succ]
        refine wpAny_ready (rs := [2]) (by kernel_rfl) (by simp) (AllReady.cons rfl (fun K hK => ?_) AllReady.nil)
        go_simp
        refine hK _ _ ?_
        clear hK K
        try simp only [Act.put, List.getElem_toArray, List.getElem_cons_succ, List.getElem_cons_zero, List.setIfInBounds_toArray, List.set_cons_zero, List.set_cons_succ]
        refine wpAny_ready (rs := [3]) (by kernel_rfl) (by simp) (AllReady.cons rfl (fun K hK => ?_) AllReady.nil)
        go_simp
        refine (toDesk_any h1 d1 w.heap.size _ (R1.out.on (Nat.le_refl _) (bnext H2.out HbA.out (Nat.le_refl _))) G2.out (bnext H2.out HbA.out (Nat.le_refl _)).size).mono ?_
        rintro e u2 ⟨h6, rfl, rB, gB, bB⟩
        have HbB := Lib.hid (bnext HbA.out bB (Nat.le_refl _))
        have RA2 := Lib.hid ((RA.out.on (Nat.le_refl _) bB).more bB.size)
        have RB := Lib.hid rB
        have GB := Lib.hid gB
        clear bB rB gB
        go_wp2
        try simp only [Act.put, List.getElem_toArray, List.getElem_cons_succ, List.getElem_cons_zero, List.setIfInBounds_toArray, List.set_cons_zero, List.set_cons_succ]
        refine wpAny_ready (rs := [4]) (by kernel_rfl) (by simp) (AllReady.cons rfl (fun K hK => ?_) AllReady.nil)
        go_simp
        refine (specSameDesk_any h5 h6 d0 d1 _ _ RA2.out RB.out GA.out GB.out (Nat.le_refl _)).mono ?_
        rintro e u3 ⟨rfl, bC⟩
        have HbC := Lib.hid (bnext HbB.out bC (Nat.le_refl _))
        clear bC
        go_wp2
        try simp only [Act.put, List.getElem_toArray, List.getElem_cons_succ, List.getElem_cons_zero, List.setIfInBounds_toArray, List.set_cons_zero, List.set_cons_succ]
        refine wpAny_take (i := 5) (v := ?_) rfl (by kernel_rfl) (by kernel_rfl) (by kernel_rfl) (fun _ _ _ h => h) (Or.inl ⟨by kernel_rfl, ?_⟩) ?_
        rotate_left 1
        · intro w; go_simp; try with_reducible rfl
        try simp only [Act.put, List.getElem_toArray, List.getElem_cons_succ, List.getElem_cons_zero, List.setIfInBounds_toArray, List.set_cons_zero, List.set_cons_succ]
        refine wpAny_done (by kernel_rfl) ?_ _
        go_wp2_with fail
        go_meet
        exact ⟨rfl, HbC.out⟩
      · go_simp
        refine hK _ _ ?_
        clear hK K
        try simp only [Act.put, List.getElem_toArray, List.getElem_cons_succ, List.getElem_cons_zero, List.setIfInBounds_toArray, List.set_cons_zero, List.set_cons_succ]
        refine wpAny_ready (rs := [1]) (by kernel_rfl) (by simp) (AllReady.cons rfl (fun K hK => ?_) AllReady.nil)
        go_simp
        refine (toDesk_any h0 d0 w.heap.size _ (R0.out.on (Nat.le_refl _) (bnext H2.out ((Below.refl w2.heap.size w2).drew) (Nat.le_refl _))) G1.out (bnext H2.out ((Below.refl w2.heap.size w2).drew) (Nat.le_refl _)).size).mono ?_
        rintro e u1 ⟨h5, rfl, rA, gA, bA⟩
        have HbA := Lib.hid (bnext ((Below.refl w2.heap.size w2).drew) bA (Nat.le_refl _))
        have RA := Lib.hid rA
        have GA := Lib.hid gA
        have kk0 := cell_on bA k0
        have kk1 := cell_on bA k1
        have kk2 := cell_on bA k2
        have kk3 := cell_on bA k3
        have kk4 := cell_on bA k4
        clear bA rA gA
        go_wp2
        try simp only [Act.put, List.getElem_toArray, List.getElem_cons_succ, List.getElem_cons_zero, List.setIfInBounds_toArray, List.set_cons_zero, List.set_cons_succ]
        refine wpAny_ready (rs := [3]) (by kernel_rfl) (by simp) (AllReady.cons rfl (fun K hK => ?_) AllReady.nil)
        go_simp
        refine (toDesk_any h1 d1 w.heap.size _ (R1.out.on (Nat.le_refl _) (bnext H2.out HbA.out (Nat.le_refl _))) G2.out (bnext H2.out HbA.out (Nat.le_refl _)).size).mono ?_
        rintro e u2 ⟨h6, rfl, rB, gB, bB⟩
        have HbB := Lib.hid (bnext HbA.out bB (Nat.le_refl _))
        have RA2 := Lib.hid ((RA.out.on (Nat.le_refl _) bB).more bB.size)
        have RB := Lib.hid rB
        have GB := Lib.hid gB
        clear bB rB gB
        go_wp2
        try simp only [Act.put, List.getElem_toArray, List.getElem_cons_succ, List.getElem_cons_zero, List.setIfInBounds_toArray, List.set_cons_zero, List.set_cons_succ]
        refine wpAny_ready (rs := [4]) (by kernel_rfl) (by simp) (AllReady.cons rfl (fun K hK => ?_) AllReady.nil)
        go_simp
        refine (specSameDesk_any h5 h6 d0 d1 _ _ RA2.out RB.out GA.out GB.out (Nat.le_refl _)).mono ?_
        rintro e u3 ⟨rfl, bC⟩
        have HbC := Lib.hid (bnext HbB.out bC (Nat.le_refl _))
        clear bC
        go_wp2
        try simp only [Act.put, List.getElem_toArray, List.getElem_cons_succ, List.getElem_cons_zero, List.setIfInBounds_toArray, List.set_cons_zero, List.set_cons_succ]
        refine wpAny_take (i := 5) (v := ?_) rfl (by kernel_rfl) (by kernel_rfl) (by kernel_rfl) (fun _ _ _ h => h) (Or.inl ⟨by kernel_rfl, ?_⟩) ?_
        rotate_left 1
        · intro w; go_simp; try with_reducible rfl
        try simp only [Act.put, List.getElem_toArray, List.getElem_cons_succ, List.getElem_cons_zero, List.setIfInBounds_toArray, List.set_cons_zero, List.set_cons_succ]
        refine wpAny_done (by kernel_rfl) ?_ _
        go_wp2_with fail
        go_meet
        exact ⟨rfl, HbC.out⟩
    · go_simp
      refine hK _ _ ?_
      clear hK K
      try simp only [Act.put, List.getElem_toArray, List.getElem_cons_succ, List.getElem_cons_zero, List.setIfInBounds_toArray, List.set_cons_zero, List.set_cons_succ]
      refine wpAny_ready (rs := [0]) (by kernel_rfl) (by simp) (AllReady.cons rfl (fun K hK => ?_) AllReady.nil)
      go_simp
      refine hK _ _ ?_
      clear hK K
      try simp only [Act.put, List.getElem_toArray, List.getElem_cons_succ, List.getElem_cons_zero, List.setIfInBounds_toArray, List.set_cons_zero, List.set_cons_succ]
      refine wpAny_ready (rs := [1]) (by kernel_rfl) (by simp) (AllReady.cons rfl (fun K hK => ?_) AllReady.nil)
      go_simp
      refine (toDesk_any h0 d0 w.heap.size _ (R0.out.on (Nat.le_refl _) (bnext H2.out ((Below.refl w2.heap.size w2).drew) (Nat.le_refl _))) G1.out (bnext H2.out ((Below.refl w2.heap.size w2).drew) (Nat.le_refl _)).size).mono ?_
      rintro e u1 ⟨h5, rfl, rA, gA, bA⟩
      have HbA := Lib.hid (bnext ((Below.refl w2.heap.size w2).drew) bA (Nat.le_refl _))
      have RA := Lib.hid rA
      have GA := Lib.hid gA
      have kk0 := cell_on bA k0
      have kk1 := cell_on bA k1
      have kk2 := cell_on bA k2
      have kk3 := cell_on bA k3
      have kk4 := cell_on bA k4
      clear bA rA gA
      go_wp2
      try simp only [Act.put, List.getElem_toArray, List.getElem_cons_succ, List.getElem_cons_zero, List.setIfInBounds_toArray, List.set_cons_zero, List.set_cons_succ]
      refine wpAny_ready (rs := [3]) (by kernel_rfl) (by simp) (AllReady.cons rfl (fun K hK => ?_) AllReady.nil)
      go_simp
      refine (toDesk_any h1 d1 w.heap.size _ (R1.out.on (Nat.le_refl _) (bnext H2.out HbA.out (Nat.le_refl _))) G2.out (bnext H2.out HbA.out (Nat.le_refl _)).size).mono ?_
      rintro e u2 ⟨h6, rfl, rB, gB, bB⟩
      have HbB := Lib.hid (bnext HbA.out bB (Nat.le_refl _))
      have RA2 := Lib.hid ((RA.out.on (Nat.le_refl _) bB).more bB.size)
      have RB := Lib.hid rB
      have GB := Lib.hid gB
      clear bB rB gB
      go_wp2
      try simp only [Act.put, List.getElem_toArray, List.getElem_cons_succ, List.getElem_cons_zero, List.setIfInBounds_toArray, List.set_cons_zero, List.set_cons_succ]
      refine wpAny_ready (rs := [4]) (by kernel_rfl) (by simp) (AllReady.cons rfl (fun K hK => ?_) AllReady.nil)
      go_simp
      refine (specSameDesk_any h5 h6 d0 d1 _ _ RA2.out RB.out GA.out GB.out (Nat.le_refl _)).mono ?_
      rintro e u3 ⟨rfl, bC⟩
      have HbC := Lib.hid (bnext HbB.out bC (Nat.le_refl _))
      clear bC
      go_wp2
      try simp only [Act.put, List.getElem_toArray, List.getElem_cons_succ, List.getElem_cons_zero, List.setIfInBounds_toArray, List.set_cons_zero, List.set_cons_succ]
      refine wpAny_take (i := 5) (v := ?_) rfl (by kernel_rfl) (by kernel_rfl) (by kernel_rfl) (fun _ _ _ h => h) (Or.inl ⟨by kernel_rfl, ?_⟩) ?_
      rotate_left 1
      · intro w; go_simp; try with_reducible rfl
      try simp only [Act.put, List.getElem_toArray, List.getElem_cons_succ, List.getElem_cons_zero, List.setIfInBounds_toArray, List.set_cons_zero, List.set_cons_succ]
      refine wpAny_done (by kernel_rfl) ?_ _
      go_wp2_with fail
      go_meet
      exact ⟨rfl, HbC.out⟩
  case rest => as_aux_lemma =>
    obtain ⟨rfl, b3⟩ := hcut
    replace y0 := y0.on b3
    replace y1 := y1.on b3
    have H3 := Lib.hid (bnext H2.out b3 (Nat.le_refl _))
    clear b3 m0 m1 m2 m3 m4 k0 k1 k2 k3 k4
    obtain ⟨w3, rfl⟩ : ∃ y : World, y = wc := ⟨_, rfl⟩
    have m0 := y0.cellAt 0 (by simp)
    have m1 := y0.cellAt 1 (by simp)
    have m2 := y0.cellAt 2 (by simp)
    have m3 := y0.cellAt 3 (by simp)
    have m4 := y0.cellAt 4 (by simp)
    simp only [List.getElem_toArray, List.getElem_cons_zero, List.getElem_cons_succ] at m0 m1 m2 m3 m4
    go_wp2_with fail
    refine (toDesk_any h0 d0 w.heap.size _ (R0.out.on (Nat.le_refl _) H3.out) G1.out H3.out.size).mono ?_
    rintro e u4 ⟨g4, rfl, r4, s4, b4⟩
    obtain ⟨w4, hw4⟩ : ∃ y, u4.alloc (.cells #[.int .i64 d0.net.sta, .slice g4.A1 g4.n1 g4.c1, .slice g4.A2 g4.n2 g4.c2, .slice g4.A3 g4.n3 g4.c3, .string d0.log] 64) = y := ⟨_, rfl⟩
    have l4 : Below u4.heap.size u4 w4 := by rw [← hw4]; exact (Below.refl _ _).alloc (Nat.le_refl _) _
    have z4 : Blk w4 u4.heap.size 64 #[.int .i64 d0.net.sta, .slice g4.A1 g4.n1 g4.c1, .slice g4.A2 g4.n2 g4.c2, .slice g4.A3 g4.n3 g4.c3, .string d0.log] := by rw [← hw4]; exact Blk.new _ _ _
    have x1 := y1.on b4
    replace y0 := (y0.on b4).on l4
    replace y1 := (y1.on b4).on l4
    have C4 := Lib.hid ((r4.on (Nat.le_refl _) l4).more l4.size)
    have T4 := Lib.hid s4
    have H4 := Lib.hid (bnext (bnext H3.out b4 (Nat.le_refl _)) l4 (Nat.le_refl _))
    have D4 := Lib.hid hw4
    clear m0 m1 m2 m3 m4 b4 l4 r4 s4 hw4
    go_upto_region 10 with fail
    rw [D4.out]
    have m0 := y1.cellAt 0 (by simp)
    have m1 := y1.cellAt 1 (by simp)
    have m2 := y1.cellAt 2 (by simp)
    have m3 := y1.cellAt 3 (by simp)
    have m4 := y1.cellAt 4 (by simp)
    simp only [List.getElem_toArray, List.getElem_cons_zero, List.getElem_cons_succ] at m0 m1 m2 m3 m4
    go_wp2_with fail
    refine (toDesk_any h1 d1 w.heap.size _ (R1.out.on (Nat.le_refl _) H4.out) G2.out H4.out.size).mono ?_
    rintro e u5 ⟨g5, rfl, r5, s5, b5⟩
    obtain ⟨w5, hw5⟩ : ∃ y, u5.alloc (.cells #[.int .i64 d1.net.sta, .slice g5.A1 g5.n1 g5.c1, .slice g5.A2 g5.n2 g5.c2, .slice g5.A3 g5.n3 g5.c3, .string d1.log] 64) = y := ⟨_, rfl⟩
    have l5 : Below u5.heap.size u5 w5 := by rw [← hw5]; exact (Below.refl _ _).alloc (Nat.le_refl _) _
    have z5 : Blk w5 u5.heap.size 64 #[.int .i64 d1.net.sta, .slice g5.A1 g5.n1 g5.c1, .slice g5.A2 g5.n2 g5.c2, .slice g5.A3 g5.n3 g5.c3, .string d1.log] := by rw [← hw5]; exact Blk.new _ _ _
    replace y0 := (y0.on b5).on l5
    replace y1 := (y1.on b5).on l5
    have x4 := z4.on b5
    replace z4 := x4.on l5
    have C5 := Lib.hid ((r5.on (Nat.le_refl _) l5).more l5.size)
    have C4b := Lib.hid (((C4.out.on (Nat.le_refl _) b5).more b5.size).on (Nat.le_refl _) l5 |>.more l5.size)
    have T5 := Lib.hid s5
    have H5 := Lib.hid (bnext (bnext H4.out b5 (Nat.le_refl _)) l5 (Nat.le_refl _))
    have D5 := Lib.hid hw5
    clear m0 m1 m2 m3 m4 b5 l5 r5 s5 hw5
    have p4 := z4.lt
    go_upto_region 11 with fail
    rw [D5.out]
    have m0 := z4.cellAt 0 (by simp)
    have m1 := z4.cellAt 1 (by simp)
    have m2 := z4.cellAt 2 (by simp)
    have m3 := z4.cellAt 3 (by simp)
    have m4 := z4.cellAt 4 (by simp)
    simp only [List.getElem_toArray, List.getElem_cons_zero, List.getElem_cons_succ] at m0 m1 m2 m3 m4
    have k0 := z5.cellAt 0 (by simp)
    have k1 := z5.cellAt 1 (by simp)
    have k2 := z5.cellAt 2 (by simp)
    have k3 := z5.cellAt 3 (by simp)
    have k4 := z5.cellAt 4 (by simp)
    simp only [List.getElem_toArray, List.getElem_cons_zero, List.getElem_cons_succ] at k0 k1 k2 k3 k4
    go_wp2_with fail
    refine (implSameDesk_any g4 g5 d0 d1 _ _ C4b.out C5.out T4.out T5.out (Nat.le_refl _)).mono ?_
    rintro e w6 ⟨rfl, b6⟩
    replace y0 := y0.on b6
    replace y1 := y1.on b6
    replace z4 := z4.on b6
    replace z5 := z5.on b6
    have E4 := Lib.hid ((C4b.out.on (Nat.le_refl _) b6).more b6.size)
    have E5 := Lib.hid ((C5.out.on (Nat.le_refl _) b6).more b6.size)
    have H6 := Lib.hid (bnext H5.out b6 (Nat.le_refl _))
    clear b6 m0 m1 m2 m3 m4 k0 k1 k2 k3 k4
    have hne : (sameDk d0 d1 != sameDk d0 d1) = false := by simp
    have m0 := z4.cellAt 0 (by simp)
    have m1 := z4.cellAt 1 (by simp)
    have m2 := z4.cellAt 2 (by simp)
    have m3 := z4.cellAt 3 (by simp)
    have m4 := z4.cellAt 4 (by simp)
    simp only [List.getElem_toArray, List.getElem_cons_zero, List.getElem_cons_succ] at m0 m1 m2 m3 m4
    have k0 := y0.cellAt 0 (by simp)
    have k1 := y0.cellAt 1 (by simp)
    have k2 := y0.cellAt 2 (by simp)
    have k3 := y0.cellAt 3 (by simp)
    have k4 := y0.cellAt 4 (by simp)
    simp only [List.getElem_toArray, List.getElem_cons_zero, List.getElem_cons_succ] at k0 k1 k2 k3 k4
    go_upto_region 14 with fail
    go_cut [39] (fun sv wx => sv = .bool false ∧ Below w6.heap.size w6 wx)
    case first => as_aux_lemma =>
      refine wp_region_any (by kernel_rfl) ?_
      try (change wpAny _ _ _ _ _ _ _ (World.drew _))
      refine wpAny_ready (rs := [0, 1]) (by kernel_rfl) (by simp) (AllReady.cons rfl (fun K hK => ?_) (AllReady.cons rfl (fun K hK => ?_) AllReady.nil))
      · go_simp
        refine hK _ _ ?_
        clear hK K
        try simp only [Act.put, List.getElem_toArray, List.getElem_cons_succ, List.getElem_cons_zero, List.setIfInBounds_toArray, List.set_cons_zero, List.set_cons_succ]
        refine wpAny_ready (rs := [1]) (by kernel_rfl) (by simp) (AllReady.cons rfl (fun K hK => ?_) AllReady.nil)
        go_simp
        refine hK _ _ ?_
        clear hK K
        try simp only [Act.put, List.getElem_toArray, List.getElem_cons_succ, List.getElem_cons_zero, List.setIfInBounds_toArray, List.set_cons_zero, List.set_cons_succ]
        refine wpAny_ready (rs := [2]) (by kernel_rfl) (by simp) (AllReady.cons rfl (fun K hK => ?_) AllReady.nil)
        go_simp
        refine (toDesk_any h0 d0 w.heap.size _ (R0.out.on (Nat.le_refl _) (bnext H6.out ((Below.refl w6.heap.size w6).drew) (Nat.le_refl _))) G1.out (bnext H6.out ((Below.refl w6.heap.size w6).drew) (Nat.le_refl _)).size).mono ?_
        rintro e u7 ⟨h7, rfl, rA, gA, bA⟩
        have HbA := Lib.hid (bnext ((Below.refl w6.heap.size w6).drew) bA (Nat.le_refl _))
        have RA := Lib.hid rA
        have RG := Lib.hid ((E4.out.on (Nat.le_refl _) (bnext ((Below.refl w6.heap.size w6).drew) bA (Nat.le_refl _))).more HbA.out.size)
        have mm0 := cell_on bA m0
        have mm1 := cell_on bA m1
        have mm2 := cell_on bA m2
        have mm3 := cell_on bA m3
        have mm4 := cell_on bA m4
        clear bA rA gA
        go_wp2
        try simp only [Act.put, List.getElem_toArray, List.getElem_cons_succ, List.getElem_cons_zero, List.setIfInBounds_toArray, List.set_cons_zero, List.set_cons_succ]
        refine wpAny_ready (rs := [3]) (by kernel_rfl) (by simp) (AllReady.cons rfl (fun K hK => ?_) AllReady.nil)
        go_simp
        refine (eqDesk_same g4 h7 d0 _ _ RG.out RA.out T4.out (Nat.le_refl _)).mono ?_
        rintro e u8 ⟨rfl, bB⟩
        have HbB := Lib.hid (bnext HbA.out bB (Nat.le_refl _))
        clear bB
        go_wp2
        try simp only [Act.put, List.getElem_toArray, List.getElem_cons_succ, List.getElem_cons_zero, List.setIfInBounds_toArray, List.set_cons_zero, List.set_cons_succ]
        refine wpAny_take (i := 4) (v := ?_) rfl (by kernel_rfl) (by kernel_rfl) (by kernel_rfl) (fun _ _ _ h => h) (Or.inl ⟨by kernel_rfl, ?_⟩) ?_
        rotate_left 1
        · intro w; go_simp; try with_reducible rfl
        try simp only [Act.put, List.getElem_toArray, List.getElem_cons_succ, List.getElem_cons_zero, List.setIfInBounds_toArray, List.set_cons_zero, List.set_cons_succ]
        refine wpAny_done (by kernel_rfl) ?_ _
        go_wp2_with fail
        go_meet
        exact ⟨rfl, HbB.out⟩
      · go_simp
        refine hK _ _ ?_
        clear hK K
        try simp only [Act.put, List.getElem_toArray, List.getElem_cons_succ, List.getElem_cons_zero, List.setIfInBounds_toArray, List.set_cons_zero, List.set_cons_succ]
        refine wpAny_ready (rs := [0, 2]) (by kernel_rfl) (by simp) (AllReady.cons rfl (fun K hK => ?_) (AllReady.cons rfl (fun K hK => ?_) AllReady.nil))
        · go_simp
          refine hK _ _ ?_
          clear hK K
          try simp only [Act.put, List.getElem_toArray, List.getElem_cons_succ, List.getElem_cons_zero, List.setIfInBounds_toArray, List.set_cons_zero, List.set_cons_succ]
          refine wpAny_ready (rs := [2]) (by kernel_rfl) (by simp) (AllReady.cons rfl (fun K hK => ?_) AllReady.nil)
          go_simp
          refine (toDesk_any h0 d0 w.heap.size _ (R0.out.on (Nat.le_refl _) (bnext H6.out ((Below.refl w6.heap.size w6).drew) (Nat.le_refl _))) G1.out (bnext H6.out ((Below.refl w6.heap.size w6).drew) (Nat.le_refl _)).size).mono ?_
          rintro e u7 ⟨h7, rfl, rA, gA, bA⟩
          have HbA := Lib.hid (bnext ((Below.refl w6.heap.size w6).drew) bA (Nat.le_refl _))
          have RA := Lib.hid rA
          have RG := Lib.hid ((E4.out.on (Nat.le_refl _) (bnext ((Below.refl w6.heap.size w6).drew) bA (Nat.le_refl _))).more HbA.out.size)
          have mm0 := cell_on bA m0
          have mm1 := cell_on bA m1
          have mm2 := cell_on bA m2
          have mm3 := cell_on bA m3
          have mm4 := cell_on bA m4
          clear bA rA gA
          go_wp2
          try simp only [Act.put, List.getElem_toArray, List.getElem_cons_succ, List.getElem_cons_zero, List.setIfInBounds_toArray, List.set_cons_zero, List.set_cons_succ]
          refine wpAny_ready (rs := [3]) (by kernel_rfl) (by simp) (AllReady.cons rfl (fun K hK => ?_) AllReady.nil)
          go_simp
          refine (eqDesk_same g4 h7 d0 _ _ RG.out RA.out T4.out (Nat.le_refl _)).mono ?_
          rintro e u8 ⟨rfl, bB⟩
          have HbB := Lib.hid (bnext HbA.out bB (Nat.le_refl _))
          clear bB
          go_wp2
          try simp only [Act.put, List.getElem_toArray, List.getElem_cons_succ, List.getElem_cons_zero, List.setIfInBounds_toArray, List.set_cons_zero, List.set_cons_succ]
          refine wpAny_take (i := 4) (v := ?_) rfl (by kernel_rfl) (by kernel_rfl) (by kernel_rfl) (fun _ _ _ h => h) (Or.inl ⟨by kernel_rfl, ?_⟩) ?_
          rotate_left 1
          · intro w; go_simp; try with_reducible rfl
          try simp only [Act.put, List.getElem_toArray, List.getElem_cons_succ, List.getElem_cons_zero, List.setIfInBounds_toArray, List.set_cons_zero, List.set_cons_succ]
          refine wpAny_done (by kernel_rfl) ?_ _
          go_wp2_with fail
          go_meet
          exact ⟨rfl, HbB.out⟩
        · go_simp
          refine (toDesk_any h0 d0 w.heap.size _ (R0.out.on (Nat.le_refl _) (bnext H6.out ((Below.refl w6.heap.size w6).drew) (Nat.le_refl _))) G1.out (bnext H6.out ((Below.refl w6.heap.size w6).drew) (Nat.le_refl _)).size).mono ?_
          rintro e u7 ⟨h7, rfl, rA, gA, bA⟩
          have HbA := Lib.hid (bnext ((Below.refl w6.heap.size w6).drew) bA (Nat.le_refl _))
          have RA := Lib.hid rA
          have RG := Lib.hid ((E4.out.on (Nat.le_refl _) (bnext ((Below.refl w6.heap.size w6).drew) bA (Nat.le_refl _))).more HbA.out.size)
          have mm0 := cell_on bA m0
          have mm1 := cell_on bA m1
          have mm2 := cell_on bA m2
          have mm3 := cell_on bA m3
          have mm4 := cell_on bA m4
          clear bA rA gA
          go_wp2
          try simp only [Act.put, List.getElem_toArray, List.getElem_cons_succ, List.getElem_cons_zero, List.setIfInBounds_toArray, List.set_cons_zero, List.set_cons_succ]
          refine wpAny_ready (rs := [0]) (by kernel_rfl) (by simp) (AllReady.cons rfl (fun K hK => ?_) AllReady.nil)
          go_simp
          refine hK _ _ ?_
          clear hK K
          try simp only [Act.put, List.getElem_toArray, List.getElem_cons_succ, List.getElem_cons_zero, List.setIfInBounds_toArray, List.set_cons_zero, List.set_cons_succ]
          refine wpAny_ready (rs := [3]) (by kernel_rfl) (by simp) (AllReady.cons rfl (fun K hK => ?_) AllReady.nil)
          go_simp
          refine (eqDesk_same g4 h7 d0 _ _ RG.out RA.out T4.out (Nat.le_refl _)).mono ?_
          rintro e u8 ⟨rfl, bB⟩
          have HbB := Lib.hid (bnext HbA.out bB (Nat.le_refl _))
          clear bB
          go_wp2
          try simp only [Act.put, List.getElem_toArray, List.getElem_cons_succ, List.getElem_cons_zero, List.setIfInBounds_toArray, List.set_cons_zero, List.set_cons_succ]
          refine wpAny_take (i := 4) (v := ?_) rfl (by kernel_rfl) (by kernel_rfl) (by kernel_rfl) (fun _ _ _ h => h) (Or.inl ⟨by kernel_rfl, ?_⟩) ?_
          rotate_left 1
          · intro w; go_simp; try with_reducible rfl
          try simp only [Act.put, List.getElem_toArray, List.getElem_cons_succ, List.getElem_cons_zero, List.setIfInBounds_toArray, List.set_cons_zero, List.set_cons_succ]
          refine wpAny_done (by kernel_rfl) ?_ _
          go_wp2_with fail
          go_meet
          exact ⟨rfl, HbB.out⟩
    case rest => as_aux_lemma =>
      obtain ⟨rfl, b7⟩ := hcut
      replace y1 := y1.on b7
      replace z5 := z5.on b7
      have E5b := Lib.hid ((E5.out.on (Nat.le_refl _) b7).more b7.size)
      have H7 := Lib.hid (bnext H6.out b7 (Nat.le_refl _))
      clear b7 m0 m1 m2 m3 m4 k0 k1 k2 k3 k4
      obtain ⟨w7, rfl⟩ : ∃ y : World, y = wc := ⟨_, rfl⟩
      have m0 := z5.cellAt 0 (by simp)
      have m1 := z5.cellAt 1 (by simp)
      have m2 := z5.cellAt 2 (by simp)
      have m3 := z5.cellAt 3 (by simp)
      have m4 := z5.cellAt 4 (by simp)
      simp only [List.getElem_toArray, List.getElem_cons_zero, List.getElem_cons_succ] at m0 m1 m2 m3 m4
      have k0 := y1.cellAt 0 (by simp)
      have k1 := y1.cellAt 1 (by simp)
      have k2 := y1.cellAt 2 (by simp)
      have k3 := y1.cellAt 3 (by simp)
      have k4 := y1.cellAt 4 (by simp)
      simp only [List.getElem_toArray, List.getElem_cons_zero, List.getElem_cons_succ] at k0 k1 k2 k3 k4
      go_upto_region 16 with fail
      go_cut [44] (fun sv wx => sv = .bool false ∧ Below w7.heap.size w7 wx)
      case first => as_aux_lemma =>
        refine wp_region_any (by kernel_rfl) ?_
        try (change wpAny _ _ _ _ _ _ _ (World.drew _))
        refine wpAny_ready (rs := [0, 1]) (by kernel_rfl) (by simp) (AllReady.cons rfl (fun K hK => ?_) (AllReady.cons rfl (fun K hK => ?_) AllReady.nil))
        · go_simp
          refine hK _ _ ?_
          clear hK K
          try simp only [Act.put, List.getElem_toArray, List.getElem_cons_succ, List.getElem_cons_zero, List.setIfInBounds_toArray, List.set_cons_zero, List.set_cons_succ]
          refine wpAny_ready (rs := [1]) (by kernel_rfl) (by simp) (AllReady.cons rfl (fun K hK => ?_) AllReady.nil)
          go_simp
          refine hK _ _ ?_
          clear hK K
          try simp only [Act.put, List.getElem_toArray, List.getElem_cons_succ, List.getElem_cons_zero, List.setIfInBounds_toArray, List.set_cons_zero, List.set_cons_succ]
          refine wpAny_ready (rs := [2]) (by kernel_rfl) (by simp) (AllReady.cons rfl (fun K hK => ?_) AllReady.nil)
          go_simp
          refine (toDesk_any h1 d1 w.heap.size _ (R1.out.on (Nat.le_refl _) (bnext H7.out ((Below.refl w7.heap.size w7).drew) (Nat.le_refl _))) G2.out (bnext H7.out ((Below.refl w7.heap.size w7).drew) (Nat.le_refl _)).size).mono ?_
          rintro e u7 ⟨h7, rfl, rA, gA, bA⟩
          have HbA := Lib.hid (bnext ((Below.refl w7.heap.size w7).drew) bA (Nat.le_refl _))
          have RA := Lib.hid rA
          have RG := Lib.hid ((E5b.out.on (Nat.le_refl _) (bnext ((Below.refl w7.heap.size w7).drew) bA (Nat.le_refl _))).more HbA.out.size)
          have mm0 := cell_on bA m0
          have mm1 := cell_on bA m1
          have mm2 := cell_on bA m2
          have mm3 := cell_on bA m3
          have mm4 := cell_on bA m4
          clear bA rA gA
          go_wp2
          try simp only [Act.put, List.getElem_toArray, List.getElem_cons_succ, List.getElem_cons_zero, List.setIfInBounds_toArray, List.set_cons_zero, List.set_cons_succ]
          refine wpAny_ready (rs := [3]) (by kernel_rfl) (by simp) (AllReady.cons rfl (fun K hK => ?_) AllReady.nil)
          go_simp
          refine (eqDesk_same g5 h7 d1 _ _ RG.out RA.out T5.out (Nat.le_refl _)).mono ?_
          rintro e u8 ⟨rfl, bB⟩
          have HbB := Lib.hid (bnext HbA.out bB (Nat.le_refl _))
          clear bB
          go_wp2
          try simp only [Act.put, List.getElem_toArray, List.getElem_cons_succ, List.getElem_cons_zero, List.setIfInBounds_toArray, List.set_cons_zero, List.set_cons_succ]
          refine wpAny_take (i := 4) (v := ?_) rfl (by kernel_rfl) (by kernel_rfl) (by kernel_rfl) (fun _ _ _ h => h) (Or.inl ⟨by kernel_rfl, ?_⟩) ?_
          rotate_left 1
          · intro w; go_simp; try with_reducible rfl
          try simp only [Act.put, List.getElem_toArray, List.getElem_cons_succ, List.getElem_cons_zero, List.setIfInBounds_toArray, List.set_cons_zero, List.set_cons_succ]
          refine wpAny_done (by kernel_rfl) ?_ _
          go_wp2_with fail
          go_meet
          exact ⟨rfl, HbB.out⟩
        · go_simp
          refine hK _ _ ?_
          clear hK K
          try simp only [Act.put, List.getElem_toArray, List.getElem_cons_succ, List.getElem_cons_zero, List.setIfInBounds_toArray, List.set_cons_zero, List.set_cons_succ]
          refine wpAny_ready (rs := [0, 2]) (by kernel_rfl) (by simp) (AllReady.cons rfl (fun K hK => ?_) (AllReady.cons rfl (fun K hK => ?_) AllReady.nil))
          · go_simp
            refine hK _ _ ?_
            clear hK K
            try simp only [Act.put, List.getElem_toArray, List.getElem_cons_succ, List.getElem_cons_zero, List.setIfInBounds_toArray, List.set_cons_zero, List.set_cons_succ]
            refine wpAny_ready (rs := [2]) (by kernel_rfl) (by simp) (AllReady.cons rfl (fun K hK => ?_) AllReady.nil)
            go_simp
            refine (toDesk_any h1 d1 w.heap.size _ (R1.out.on (Nat.le_refl _) (bnext H7.out ((Below.refl w7.heap.size w7).drew) (Nat.le_refl _))) G2.out (bnext H7.out ((Below.refl w7.heap.size w7).drew) (Nat.le_refl _)).size).mono ?_
            rintro e u7 ⟨h7, rfl, rA, gA, bA⟩
            have HbA := Lib.hid (bnext ((Below.refl w7.heap.size w7).drew) bA (Nat.le_refl _))
            have RA := Lib.hid rA
            have RG := Lib.hid ((E5b.out.on (Nat.le_refl _) (bnext ((Below.refl w7.heap.size w7).drew) bA (Nat.le_refl _))).more HbA.out.size)
            have mm0 := cell_on bA m0
            have mm1 := cell_on bA m1
            have mm2 := cell_on bA m2
            have mm3 := cell_on bA m3
            have mm4 := cell_on bA m4
            clear bA rA gA
            go_wp2
            try simp only [Act.put, List.getElem_toArray, List.getElem_cons_succ, List.getElem_cons_zero, List.setIfInBounds_toArray, List.set_cons_zero, List.set_cons_succ]
            refine wpAny_ready (rs := [3]) (by kernel_rfl) (by simp) (AllReady.cons rfl (fun K hK => ?_) AllReady.nil)
            go_simp
            refine (eqDesk_same g5 h7 d1 _ _ RG.out RA.out T5.out (Nat.le_refl _)).mono ?_
            rintro e u8 ⟨rfl, bB⟩
            have HbB := Lib.hid (bnext HbA.out bB (Nat.le_refl _))
            clear bB
            go_wp2
            try simp only [Act.put, List.getElem_toArray, List.getElem_cons_succ, List.getElem_cons_zero, List.setIfInBounds_toArray, List.set_cons_zero, List.set_cons_succ]
            refine wpAny_take (i := 4) (v := ?_) rfl (by kernel_rfl) (by kernel_rfl) (by kernel_rfl) (fun _ _ _ h => h) (Or.inl ⟨by kernel_rfl, ?_⟩) ?_
            rotate_left 1
            · intro w; go_simp; try with_reducible rfl
            try simp only [Act.put, List.getElem_toArray, List.getElem_cons_succ, List.getElem_cons_zero, List.setIfInBounds_toArray, List.set_cons_zero, List.set_cons_succ]
            refine wpAny_done (by kernel_rfl) ?_ _
            go_wp2_with fail
            go_meet
            exact ⟨rfl, HbB.out⟩
          · go_simp
            refine (toDesk_any h1 d1 w.heap.size _ (R1.out.on (Nat.le_refl _) (bnext H7.out ((Below.refl w7.heap.size w7).drew) (Nat.le_refl _))) G2.out (bnext H7.out ((Below.refl w7.heap.size w7).drew) (Nat.le_refl _)).size).mono ?_
            rintro e u7 ⟨h7, rfl, rA, gA, bA⟩
            have HbA := Lib.hid (bnext ((Below.refl w7.heap.size w7).drew) bA (Nat.le_refl _))
            have RA := Lib.hid rA
            have RG := Lib.hid ((E5b.out.on (Nat.le_refl _) (bnext ((Below.refl w7.heap.size w7).drew) bA (Nat.le_refl _))).more HbA.out.size)
            have mm0 := cell_on bA m0
            have mm1 := cell_on bA m1
            have mm2 := cell_on bA m2
            have mm3 := cell_on bA m3
            have mm4 := cell_on bA m4
            clear bA rA gA
            go_wp2
            try simp only [Act.put, List.getElem_toArray, List.getElem_cons_succ, List.getElem_cons_zero, List.setIfInBounds_toArray, List.set_cons_zero, List.set_cons_succ]
            refine wpAny_ready (rs := [0]) (by kernel_rfl) (by simp) (AllReady.cons rfl (fun K hK => ?_) AllReady.nil)
            go_simp
            refine hK _ _ ?_
            clear hK K
            try simp only [Act.put, List.getElem_toArray, List.getElem_cons_succ, List.getElem_cons_zero, List.setIfInBounds_toArray, List.set_cons_zero, List.set_cons_succ]
            refine wpAny_ready (rs := [3]) (by kernel_rfl) (by simp) (AllReady.cons rfl (fun K hK => ?_) AllReady.nil)
            go_simp
            refine (eqDesk_same g5 h7 d1 _ _ RG.out RA.out T5.out (Nat.le_refl _)).mono ?_
            rintro e u8 ⟨rfl, bB⟩
            have HbB := Lib.hid (bnext HbA.out bB (Nat.le_refl _))
            clear bB
            go_wp2
            try simp only [Act.put, List.getElem_toArray, List.getElem_cons_succ, List.getElem_cons_zero, List.setIfInBounds_toArray, List.set_cons_zero, List.set_cons_succ]
            refine wpAny_take (i := 4) (v := ?_) rfl (by kernel_rfl) (by kernel_rfl) (by kernel_rfl) (fun _ _ _ h => h) (Or.inl ⟨by kernel_rfl, ?_⟩) ?_
            rotate_left 1
            · intro w; go_simp; try with_reducible rfl
            try simp only [Act.put, List.getElem_toArray, List.getElem_cons_succ, List.getElem_cons_zero, List.setIfInBounds_toArray, List.set_cons_zero, List.set_cons_succ]
            refine wpAny_done (by kernel_rfl) ?_ _
            go_wp2_with fail
            go_meet
            exact ⟨rfl, HbB.out⟩
      case rest => as_aux_lemma =>
        obtain ⟨rfl, b8⟩ := hcut
        have H8 := Lib.hid (bnext H7.out b8 (Nat.le_refl _))
        clear b8 m0 m1 m2 m3 m4 k0 k1 k2 k3 k4
        go_wp2
        go_ret
        exact ⟨rfl, H8.out⟩
end Go.Proofs.Ytnlghcpidlpfkaa.lawSameDesk
