/- FnExactDeskText: for all arguments the program's DeskText returns what the reference's returns; the arguments are left as they were. -/
import Derived.Test.YtgcepomehgedfaaGreatDoorDkT
import Derived.Deep.DeepCutAuto
import Derived.Orders
set_option linter.unusedVariables false
set_option linter.unusedSimpArgs false
namespace Go.Proofs.YtgcepomehgedfaaGreatDoor.lawDeskText
open Go.RowKit Go.Proofs.YtgcepomehgedfaaGreatDoor

set_option maxHeartbeats 4000000 in
set_option maxRecDepth 100000 in
theorem walk (h0 : DkH) (d0 : Dk) (w : World) (hr0 : DkR w w.heap.size h0 d0) (ok0 : h0.ok) (lg0 : d0.log.size ≤ 9223372036854775807) (m : Int) (hm : w.cell? ⟨3, 0, none⟩ = some (.int .i64 m)) (ht : TabP w) (hv : SynP w) :
    Calls Tryz.prog 3 #[.agg #[.int .i64 d0.net.sta, .slice h0.A1 h0.n1 h0.c1, .slice h0.A2 h0.n2 h0.c2, .slice h0.A3 h0.n3 h0.c3, .string d0.log]] w fun e w' => e = .returned (.bool true) ∧ Below w.heap.size w w' := by
  obtain ⟨W, hW, k0, hb⟩ : ∃ W, W = w.alloc (.cells #[.int .i64 d0.net.sta, .slice h0.A1 h0.n1 h0.c1, .slice h0.A2 h0.n2 h0.c2, .slice h0.A3 h0.n3 h0.c3, .string d0.log] 28) ∧ Blk W w.heap.size 28 #[.int .i64 d0.net.sta, .slice h0.A1 h0.n1 h0.c1, .slice h0.A2 h0.n2 h0.c2, .slice h0.A3 h0.n3 h0.c3, .string d0.log] ∧ Below w.heap.size w W := ⟨_, rfl, Blk.new _ _ _, (Below.refl _ _).alloc (Nat.le_refl _) _⟩
  have HW := Lib.hid hW
  have y0 := k0
  have H0 := Lib.hid hb
  have R0 := Lib.hid hr0
  have HM := Lib.hid hm
  have HT := Lib.hid ht
  have HV := Lib.hid hv
  clear hW k0 hb hr0 hm ht hv
  go_enter Tryz.func3, Tryz.ntmps3
  go_wp2_with fail
  rw [← HW.out]
  refine (szDesk_any h0 d0 _ w.heap.size _ (R0.out.on (Nat.le_refl _) H0.out) ok0 H0.out.size (by omega) (by omega) lg0).mono ?_
  rintro e w1 ⟨r1, rfl, b1, hr1⟩
  replace y0 := y0.on b1
  have H1 := Lib.hid (bnext H0.out b1 (Nat.le_refl _))
  clear b1
  rcases hr1 with hr1 | ⟨p1, q1, S1⟩
  · go_wp2
    go_ret
    exact ⟨rfl, H1.out⟩
  have G1 := Lib.hid S1
  clear S1
  have m0 := y0.cellAt 0 (by simp)
  have m1 := y0.cellAt 1 (by simp)
  have m2 := y0.cellAt 2 (by simp)
  have m3 := y0.cellAt 3 (by simp)
  have m4 := y0.cellAt 4 (by simp)
  simp only [List.getElem_toArray, List.getElem_cons_zero, List.getElem_cons_succ] at m0 m1 m2 m3 m4
  go_wp2_with fail
  refine (toDesk_any h0 d0 w.heap.size _ (R0.out.on (Nat.le_refl _) H1.out) G1.out H1.out.size).mono ?_
  rintro e w2 ⟨g2, rfl, r2, s2, b2⟩
  have C2 := Lib.hid r2
  have T2 := Lib.hid s2
  have H2 := Lib.hid (bnext H1.out b2 (Nat.le_refl _))
  have y2 := y0.on b2
  clear m0 m1 m2 m3 m4 b2 r2 s2
  go_wp2_with fail
  refine (specDeskText_any g2 d0 _ w2 C2.out T2.out (Nat.le_refl _)).mono ?_
  rintro e w3 ⟨rfl, b3⟩
  have H3 := Lib.hid (bnext H2.out b3 (Nat.le_refl _))
  have y3 := y2.on b3
  clear b3
  have m0 := y3.cellAt 0 (by simp)
  have m1 := y3.cellAt 1 (by simp)
  have m2 := y3.cellAt 2 (by simp)
  have m3 := y3.cellAt 3 (by simp)
  have m4 := y3.cellAt 4 (by simp)
  simp only [List.getElem_toArray, List.getElem_cons_zero, List.getElem_cons_succ] at m0 m1 m2 m3 m4
  go_wp2_with fail
  refine (toDesk_any h0 d0 w.heap.size _ (R0.out.on (Nat.le_refl _) H3.out) G1.out H3.out.size).mono ?_
  rintro e u4 ⟨g4, rfl, r4, s4, b4⟩
  obtain ⟨w4, hw4⟩ : ∃ y, u4.alloc (.cells #[.int .i64 d0.net.sta, .slice g4.A1 g4.n1 g4.c1, .slice g4.A2 g4.n2 g4.c2, .slice g4.A3 g4.n3 g4.c3, .string d0.log] 36) = y := ⟨_, rfl⟩
  have l4 : Below u4.heap.size u4 w4 := by rw [← hw4]; exact (Below.refl _ _).alloc (Nat.le_refl _) _
  have z4 : Blk w4 u4.heap.size 36 #[.int .i64 d0.net.sta, .slice g4.A1 g4.n1 g4.c1, .slice g4.A2 g4.n2 g4.c2, .slice g4.A3 g4.n3 g4.c3, .string d0.log] := by rw [← hw4]; exact Blk.new _ _ _
  have y4 := (y3.on b4).on l4
  have C4 := Lib.hid ((r4.on (Nat.le_refl _) l4).more l4.size)
  have T4 := Lib.hid s4
  have H4 := Lib.hid (bnext (bnext H3.out b4 (Nat.le_refl _)) l4 (Nat.le_refl _))
  have D4 := Lib.hid hw4
  clear m0 m1 m2 m3 m4 b4 l4 r4 s4 hw4
  go_upto_region 7 with fail
  rw [D4.out]
  have m0 := z4.cellAt 0 (by simp)
  have m1 := z4.cellAt 1 (by simp)
  have m2 := z4.cellAt 2 (by simp)
  have m3 := z4.cellAt 3 (by simp)
  have m4 := z4.cellAt 4 (by simp)
  simp only [List.getElem_toArray, List.getElem_cons_zero, List.getElem_cons_succ] at m0 m1 m2 m3 m4
  go_wp2_with fail
  refine (implDeskText_any g4 d0 m _ w4 C4.out T4.out (Nat.le_refl _) (cell_on H4.out HM.out) (tabUp HT.out H4.out) (synUp HV.out H4.out)).mono ?_
  rintro e w6 ⟨rfl, b6⟩
  have y6 := y4.on b6
  have z6 := z4.on b6
  have E4 := Lib.hid ((C4.out.on (Nat.le_refl _) b6).more b6.size)
  have H6 := Lib.hid (bnext H4.out b6 (Nat.le_refl _))
  clear b6 m0 m1 m2 m3 m4
  have hne : (!((textDk d0).toList == (textDk d0).toList)) = false := by simp
  have m0 := z6.cellAt 0 (by simp)
  have m1 := z6.cellAt 1 (by simp)
  have m2 := z6.cellAt 2 (by simp)
  have m3 := z6.cellAt 3 (by simp)
  have m4 := z6.cellAt 4 (by simp)
  simp only [List.getElem_toArray, List.getElem_cons_zero, List.getElem_cons_succ] at m0 m1 m2 m3 m4
  have k0 := y6.cellAt 0 (by simp)
  have k1 := y6.cellAt 1 (by simp)
  have k2 := y6.cellAt 2 (by simp)
  have k3 := y6.cellAt 3 (by simp)
  have k4 := y6.cellAt 4 (by simp)
  simp only [List.getElem_toArray, List.getElem_cons_zero, List.getElem_cons_succ] at k0 k1 k2 k3 k4
  go_upto_region 10 with fail
  go_cut [26] (fun sv wx => sv = .bool false ∧ Below w6.heap.size w6 wx)
  case first => as_aux_lemma =>
    refine wp_region_any (by kernel_rfl) ?_
    try (change wpAny _ _ _ _ _ _ _ (World.drew _))
    refine wpAny_ready (rs := [0, 1]) (by kernel_rfl) (by simp) (AllReady.cons rfl (fun K hK => ?_) (AllReady.cons rfl (fun K hK => ?_) AllReady.nil))
    · go_simp
      refine hK _ _ ?_
      clear hK K
      try simp only [Act.put, List.getElem_toArray, List.getElem_cons_succ, List.getElem_cons_zero, List.setIfInBounds_toArray, List.set_cons_zero, List.set_cons_succ]
      refine wpAny_ready (rs := [1]) (by kernel_rfl) (by simp) (AllReady.cons rfl (fun K hK => ?_) AllReady.nil)
      go_simp
      refine hK _ _ ?_
      clear hK K
      try simp only [Act.put, List.getElem_toArray, List.getElem_cons_succ, List.getElem_cons_zero, List.setIfInBounds_toArray, List.set_cons_zero, List.set_cons_succ]
      refine wpAny_ready (rs := [2]) (by kernel_rfl) (by simp) (AllReady.cons rfl (fun K hK => ?_) AllReady.nil)
      go_simp
      refine (toDesk_any h0 d0 w.heap.size _ (R0.out.on (Nat.le_refl _) (bnext H6.out ((Below.refl w6.heap.size w6).drew) (Nat.le_refl _))) G1.out (bnext H6.out ((Below.refl w6.heap.size w6).drew) (Nat.le_refl _)).size).mono ?_
      rintro e u7 ⟨h7, rfl, rA, gA, bA⟩
      have HbA := Lib.hid (bnext ((Below.refl w6.heap.size w6).drew) bA (Nat.le_refl _))
      have RA := Lib.hid rA
      have RG := Lib.hid ((E4.out.on (Nat.le_refl _) (bnext ((Below.refl w6.heap.size w6).drew) bA (Nat.le_refl _))).more HbA.out.size)
      have mm0 := cell_on bA m0
      have mm1 := cell_on bA m1
      have mm2 := cell_on bA m2
      have mm3 := cell_on bA m3
      have mm4 := cell_on bA m4
      clear bA rA gA
      go_wp2
      try simp only [Act.put, List.getElem_toArray, List.getElem_cons_succ, List.getElem_cons_zero, List.setIfInBounds_toArray, List.set_cons_zero, List.set_cons_succ]
      refine wpAny_ready (rs := [3]) (by kernel_rfl) (by simp) (AllReady.cons rfl (fun K hK => ?_) AllReady.nil)
      go_simp
      refine (eqDesk_same g4 h7 d0 _ _ RG.out RA.out T4.out (Nat.le_refl _)).mono ?_
      rintro e u8 ⟨rfl, bB⟩
      have HbB := Lib.hid (bnext HbA.out bB (Nat.le_refl _))
      clear bB
      go_wp2
      try simp only [Act.put, List.getElem_toArray, List.getElem_cons_succ, List.getElem_cons_zero, List.setIfInBounds_toArray, List.set_cons_zero, List.set_cons_succ]
      refine wpAny_take (i := 4) (v := ?_) rfl (by kernel_rfl) (by kernel_rfl) (by kernel_rfl) (fun _ _ _ h => h) (Or.inl ⟨by kernel_rfl, ?_⟩) ?_
      rotate_left 1
      · intro w; go_simp; try with_reducible rfl
      try simp only [Act.put, List.getElem_toArray, List.getElem_cons_succ, List.getElem_cons_zero, List.setIfInBounds_toArray, List.set_cons_zero, List.set_cons_succ]
      refine wpAny_done (by kernel_rfl) ?_ _
      go_wp2_with fail
      go_meet
      exact ⟨rfl, HbB.out⟩
    · go_simp
      refine hK _ _ ?_
      clear hK K
      try simp only [Act.put, List.getElem_toArray, List.getElem_cons_succ, List.getElem_cons_zero, List.setIfInBounds_toArray, List.set_cons_zero, List.set_cons_succ]
      refine wpAny_ready (rs := [0, 2]) (by kernel_rfl) (by simp) (AllReady.cons rfl (fun K hK => ?_) (AllReady.cons rfl (fun K hK => ?_) AllReady.nil))
      · go_simp
        refine hK _ _ ?_
        clear hK K
        try simp only [Act.put, List.getElem_toArray, List.getElem_cons_succ, List.getElem_cons_zero, List.setIfInBounds_toArray, List.set_cons_zero, List.set_cons_succ]
        refine wpAny_ready (rs := [2]) (by kernel_rfl) (by simp) (AllReady.cons rfl (fun K hK => ?_) AllReady.nil)
        go_simp
        refine (toDesk_any h0 d0 w.heap.size _ (R0.out.on (Nat.le_refl _) (bnext H6.out ((Below.refl w6.heap.size w6).drew) (Nat.le_refl _))) G1.out (bnext H6.out ((Below.refl w6.heap.size w6).drew) (Nat.le_refl _)).size).mono ?_
        rintro e u7 ⟨h7, rfl, rA, gA, bA⟩
        have HbA := Lib.hid (bnext ((Below.refl w6.heap.size w6).drew) bA (Nat.le_refl _))
        have RA := Lib.hid rA
        have RG := Lib.hid ((E4.out.on (Nat.le_refl _) (bnext ((Below.refl w6.heap.size w6).drew) bA (Nat.le_refl _))).more HbA.out.size)
        have mm0 := cell_on bA m0
        have mm1 := cell_on bA m1
        have mm2 := cell_on bA m2
        have mm3 := cell_on bA m3
        have mm4 := cell_on bA m4
        clear bA rA gA
        go_wp2
        try simp only [Act.put, List.getElem_toArray, List.getElem_cons_succ, List.getElem_cons_zero, List.setIfInBounds_toArray, List.set_cons_zero, List.set_cons_succ]
        refine wpAny_ready (rs := [3]) (by kernel_rfl) (by simp) (AllReady.cons rfl (fun K hK => ?_) AllReady.nil)
        go_simp
        refine (eqDesk_same g4 h7 d0 _ _ RG.out RA.out T4.out (Nat.le_refl _)).mono ?_
        rintro e u8 ⟨rfl, bB⟩
        have HbB := Lib.hid (bnext HbA.out bB (Nat.le_refl _))
        clear bB
        go_wp2
        try simp only [Act.put, List.getElem_toArray, List.getElem_cons_succ, List.getElem_cons_zero, List.setIfInBounds_toArray, List.set_cons_zero, List.set_cons_succ]
        refine wpAny_take (i := 4) (v := ?_) rfl (by kernel_rfl) (by kernel_rfl) (by kernel_rfl) (fun _ _ _ h => h) (Or.inl ⟨by kernel_rfl, ?_⟩) ?_
        rotate_left 1
        · intro w; go_simp; try with_reducible rfl
        try simp only [Act.put, List.getElem_toArray, List.getElem_cons_succ, List.getElem_cons_zero, List.setIfInBounds_toArray, List.set_cons_zero, List.set_cons_succ]
        refine wpAny_done (by kernel_rfl) ?_ _
        go_wp2_with fail
        go_meet
        exact ⟨rfl, HbB.out⟩
      · go_simp
        refine (toDesk_any h0 d0 w.heap.size _ (R0.out.on (Nat.le_refl _) (bnext H6.out ((Below.refl w6.heap.size w6).drew) (Nat.le_refl _))) G1.out (bnext H6.out ((Below.refl w6.heap.size w6).drew) (Nat.le_refl _)).size).mono ?_
        rintro e u7 ⟨h7, rfl, rA, gA, bA⟩
        have HbA := Lib.hid (bnext ((Below.refl w6.heap.size w6).drew) bA (Nat.le_refl _))
        have RA := Lib.hid rA
        have RG := Lib.hid ((E4.out.on (Nat.le_refl _) (bnext ((Below.refl w6.heap.size w6).drew) bA (Nat.le_refl _))).more HbA.out.size)
        have mm0 := cell_on bA m0
        have mm1 := cell_on bA m1
        have mm2 := cell_on bA m2
        have mm3 := cell_on bA m3
        have mm4 := cell_on bA m4
        clear bA rA gA
        go_wp2
        try simp only [Act.put, List.getElem_toArray, List.getElem_cons_succ, List.getElem_cons_zero, List.setIfInBounds_toArray, List.set_cons_zero, List.set_cons_succ]
        refine wpAny_ready (rs := [0]) (by kernel_rfl) (by simp) (AllReady.cons rfl (fun K hK => ?_) AllReady.nil)
        go_simp
        refine hK _ _ ?_
        clear hK K
        try simp only [Act.put, List.getElem_toArray, List.getElem_cons_succ, List.getElem_cons_zero, List.setIfInBounds_toArray, List.set_cons_zero, List.set_cons_succ]
        refine wpAny_ready (rs := [3]) (by kernel_rfl) (by simp) (AllReady.cons rfl (fun K hK => ?_) AllReady.nil)
        go_simp
        refine (eqDesk_same g4 h7 d0 _ _ RG.out RA.out T4.out (Nat.le_refl _)).mono ?_
        rintro e u8 ⟨rfl, bB⟩
        have HbB := Lib.hid (bnext HbA.out bB (Nat.le_refl _))
        clear bB
        go_wp2
        try simp only [Act.put, List.getElem_toArray, List.getElem_cons_succ, List.getElem_cons_zero, List.setIfInBounds_toArray, List.set_cons_zero, List.set_cons_succ]
        refine wpAny_take (i := 4) (v := ?_) rfl (by kernel_rfl) (by kernel_rfl) (by kernel_rfl) (fun _ _ _ h => h) (Or.inl ⟨by kernel_rfl, ?_⟩) ?_
        rotate_left 1
        · intro w; go_simp; try with_reducible rfl
        try simp only [Act.put, List.getElem_toArray, List.getElem_cons_succ, List.getElem_cons_zero, List.setIfInBounds_toArray, List.set_cons_zero, List.set_cons_succ]
        refine wpAny_done (by kernel_rfl) ?_ _
        go_wp2_with fail
        go_meet
        exact ⟨rfl, HbB.out⟩
  case rest => as_aux_lemma =>
    obtain ⟨rfl, b7⟩ := hcut
    have H7 := Lib.hid (bnext H6.out b7 (Nat.le_refl _))
    clear b7 m0 m1 m2 m3 m4 k0 k1 k2 k3 k4
    go_wp2
    go_ret
    exact ⟨rfl, H7.out⟩
end Go.Proofs.YtgcepomehgedfaaGreatDoor.lawDeskText
