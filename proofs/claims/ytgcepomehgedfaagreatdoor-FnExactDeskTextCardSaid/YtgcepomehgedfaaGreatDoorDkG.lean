/- The desk: its size, the law's copy, the law's comparison. -/
import Derived.Test.YtgcepomehgedfaaGreatDoorDkD
set_option linter.unusedVariables false
namespace Go.Proofs.YtgcepomehgedfaaGreatDoor
open Go.RowKit

set_option maxHeartbeats 1000000 in
theorem szDesk_any (h : DkH) (d : Dk) (q : Int) (B : Nat) (w : World) (hr : DkR w B h d) (hok : h.ok) (hB : B ≤ w.heap.size) (hq0 : 0 ≤ q) (hq : q ≤ 1048576) (hlog : d.log.size ≤ 9223372036854775807) :
    Calls Tryz.prog 4 #[.agg #[.int .i64 d.net.sta, .slice h.A1 h.n1 h.c1, .slice h.A2 h.n2 h.c2, .slice h.A3 h.n3 h.c3, .string d.log], .int .i64 q] w fun e w' => ∃ r : Int, e = .returned (.int .i64 r) ∧ Below w.heap.size w w' ∧ (r < 0 ∨ (0 ≤ r ∧ r ≤ q ∧ DkS h d)) := by
  obtain ⟨W, hW, k0, hb⟩ : ∃ W, W = w.alloc (.cells #[.int .i64 d.net.sta, .slice h.A1 h.n1 h.c1, .slice h.A2 h.n2 h.c2, .slice h.A3 h.n3 h.c3, .string d.log] 28) ∧ Blk W w.heap.size 28 #[.int .i64 d.net.sta, .slice h.A1 h.n1 h.c1, .slice h.A2 h.n2 h.c2, .slice h.A3 h.n3 h.c3, .string d.log] ∧ Below w.heap.size w W := ⟨_, rfl, Blk.new _ _ _, (Below.refl _ _).alloc (Nat.le_refl _) _⟩
  have HW := Lib.hid hW
  have HK := Lib.hid k0
  have HB := Lib.hid hb
  have HR := Lib.hid hr
  have HOK := Lib.hid hok
  clear hW k0 hb hr hok
  go_enter Tryz.func4, Tryz.ntmps4
  go_wp2_with fail
  rw [← HW.out]
  refine (szNet_any h.A1 h.n1 h.c1 d.net.sta q W hq0 hq HOK.out.n1).mono ?_
  rintro e w1 ⟨r1, rfl, b1, h1⟩
  have HB1 := Lib.hid (bnext HB.out b1 (Nat.le_refl _))
  have HK1 := Lib.hid (HK.out.on b1)
  clear b1
  rcases h1 with h1 | ⟨h10, h11, h12⟩
  · go_wp2
    go_ret
    exact ⟨_, rfl, HB1.out, .inl (by omega)⟩
  · have c1 := HK1.out.cellAt 2 (by simp)
    have c2 := HK1.out.cellAt 3 (by simp)
    simp only [List.getElem_toArray, List.getElem_cons_zero, List.getElem_cons_succ] at c1 c2
    go_wp2_with fail
    refine (szInt64S_any h.A2 h.n2 h.c2 r1 w1 h10 (by omega) HOK.out.n2).mono ?_
    rintro e w2 ⟨rfl, r2, rfl, h2⟩
    rcases h2 with h2 | ⟨h20, h21, h22⟩
    · go_wp2
      go_ret
      exact ⟨_, rfl, HB1.out, .inl (by omega)⟩
    · go_wp2_with fail
      refine (szRunS_any h.A3 h.n3 h.c3 d.runs r2 B w1 (HR.out.runs.on hB HB1.out) h20 (by omega) HOK.out.n3 (Nat.le_trans hB HB1.out.size)).mono ?_
      rintro e w3 ⟨r3, rfl, b3, h3⟩
      have HB3 := Lib.hid (bnext HB1.out b3 (Nat.le_refl _))
      have HK3 := Lib.hid (HK1.out.on b3)
      clear b3 c1 c2
      rcases h3 with h3 | ⟨h30, h31, h32, h33⟩
      · go_wp2
        go_ret
        exact ⟨_, rfl, HB3.out, .inl (by omega)⟩
      · have HSM := Lib.hid h33
        have c4 := HK3.out.cellAt 4 (by simp)
        simp only [List.getElem_toArray, List.getElem_cons_zero, List.getElem_cons_succ] at c4
        clear h33
        by_cases hlt : (d.log.size : Int) ≤ r3
        · go_wp2
          go_ret
          exact ⟨_, rfl, HB3.out, .inr ⟨by omega, by omega, ⟨by omega, by omega, by omega, HSM.out, by omega⟩⟩⟩
        · go_wp2
          go_ret
          exact ⟨_, rfl, HB3.out, .inl (by omega)⟩


set_option maxHeartbeats 2000000 in
theorem toDesk_any (h : DkH) (d : Dk) (B : Nat) (w : World) (hr : DkR w B h d) (hs : DkS h d) (hB : B ≤ w.heap.size) :
    Calls Tryz.prog 6 #[.agg #[.int .i64 d.net.sta, .slice h.A1 h.n1 h.c1, .slice h.A2 h.n2 h.c2, .slice h.A3 h.n3 h.c3, .string d.log]] w fun e w' => ∃ h' : DkH, e = .returned (.agg #[.int .i64 d.net.sta, .slice h'.A1 h'.n1 h'.c1, .slice h'.A2 h'.n2 h'.c2, .slice h'.A3 h'.n3 h'.c3, .string d.log]) ∧ DkR w' w'.heap.size h' d ∧ DkS h' d ∧ Below w.heap.size w w' := by
  obtain ⟨W, hW, hsz, k0, k1, k2, hb⟩ := three_al w #[.int .i64 d.net.sta, .slice h.A1 h.n1 h.c1, .slice h.A2 h.n2 h.c2, .slice h.A3 h.n3 h.c3, .string d.log] #[.int .i64 0, .slice none 0 0, .slice none 0 0, .slice none 0 0, .string ⟨#[]⟩] #[.int .i64 0, .slice none 0 0, .slice none 0 0, .slice none 0 0, .string ⟨#[]⟩] 28 36 36
  have HW := Lib.hid hW
  have HS := Lib.hid hsz
  have HK0 := Lib.hid k0
  have HK1 := Lib.hid k1
  have HK2 := Lib.hid k2
  have HB := Lib.hid hb
  have HR := Lib.hid hr
  have HD := Lib.hid hs
  clear hW hsz k0 k1 k2 hb hr hs
  go_enter Tryz.func6, Tryz.ntmps6
  go_wp2_with fail
  rw [← HW.out]
  refine (toNet_any h.A1 h.n1 h.c1 B d.net W (HR.out.tubes.on hB HB.out) (Nat.le_trans hB HB.out.size) HD.out.n1).mono ?_
  rintro e w1 ⟨g1, rfl, s1, b1⟩
  have a0 := (HK2.out.on b1).cellAt 0 (by simp)
  have f0 := (HK2.out.on b1).frozen 0
  have a1 := (HK2.out.on b1).cellAt 1 (by simp)
  have f1 := (HK2.out.on b1).frozen 1
  have a2 := (HK2.out.on b1).cellAt 2 (by simp)
  have f2 := (HK2.out.on b1).frozen 2
  have a3 := (HK2.out.on b1).cellAt 3 (by simp)
  have f3 := (HK2.out.on b1).frozen 3
  have a4 := (HK2.out.on b1).cellAt 4 (by simp)
  have f4 := (HK2.out.on b1).frozen 4
  have o2 := (HK0.out.on b1).cellAt 2 (by simp)
  have o3 := (HK0.out.on b1).cellAt 3 (by simp)
  have o4 := (HK0.out.on b1).cellAt 4 (by simp)
  simp only [List.getElem_toArray, List.getElem_cons_zero, List.getElem_cons_succ] at a0 a1 a2 a3 a4 o2 o3 o4
  obtain ⟨V1, hV1⟩ : ∃ V1, V1 = (w1.setCell ⟨w.heap.size + 1 + 1, 0, none⟩ (.int .i64 d.net.sta)).setCell ⟨w.heap.size + 1 + 1, 1, none⟩ (.slice (some ⟨g1, 0, none⟩) h.n1 h.n1) := ⟨_, rfl⟩
  have HO1 := Lib.hid (show Only w.heap.size W.heap.size w1 V1 by rw [hV1]; have := HS.out; exact ((Only.refl _ _ _).setCell (by simp; omega) (by simp; omega) _).setCell (by simp; omega) (by simp; omega) _)
  have HL0 := Lib.hid (show Blk V1 w.heap.size _ _ by rw [hV1]; exact ((HK0.out.on b1).far (p := ⟨w.heap.size + 1 + 1, 0, none⟩) (by simp; omega) _).far (p := ⟨w.heap.size + 1 + 1, 1, none⟩) (by simp; omega) _)
  have HL1 := Lib.hid (show Blk V1 (w.heap.size + 1) _ _ by rw [hV1]; exact ((HK1.out.on b1).far (p := ⟨w.heap.size + 1 + 1, 0, none⟩) (by simp) _).far (p := ⟨w.heap.size + 1 + 1, 1, none⟩) (by simp) _)
  have HL2 := Lib.hid (show Blk V1 (w.heap.size + 1 + 1) 36 #[.int .i64 d.net.sta, .slice (some ⟨g1, 0, none⟩) h.n1 h.n1, .slice none 0 0, .slice none 0 0, .string ⟨#[]⟩] by rw [hV1]; exact ((HK2.out.on b1).set_ 0 _).set_ 1 _)
  have HB1 := Lib.hid (bonly (bnext HB.out b1 (Nat.le_refl _)) HO1.out (Nat.le_refl _) (Nat.le_refl _))
  have S1 := Lib.hid (s1.apart HO1.out (.inr (Nat.le_refl _)))
  have HV1 := Lib.hid hV1
  have HZ1 := Lib.hid b1.size
  clear s1 b1 hV1
  go_wp2_with fail
  rw [← HV1.out]
  clear a0 a1 a2 a3 a4 o2 o3 o4 f0 f1 f2 f3 f4
  refine (toInt64S_any h.A2 h.n2 h.c2 B d.times V1 (HR.out.times.on hB HB1.out) (Nat.le_trans hB HB1.out.size) HD.out.n2).mono ?_
  rintro e w2 ⟨g2, rfl, s2, b2⟩
  have a0 := (HL2.out.on b2).cellAt 0 (by simp)
  have f0 := (HL2.out.on b2).frozen 0
  have a1 := (HL2.out.on b2).cellAt 1 (by simp)
  have f1 := (HL2.out.on b2).frozen 1
  have a2 := (HL2.out.on b2).cellAt 2 (by simp)
  have f2 := (HL2.out.on b2).frozen 2
  have a3 := (HL2.out.on b2).cellAt 3 (by simp)
  have f3 := (HL2.out.on b2).frozen 3
  have a4 := (HL2.out.on b2).cellAt 4 (by simp)
  have f4 := (HL2.out.on b2).frozen 4
  have o2 := (HL0.out.on b2).cellAt 2 (by simp)
  have o3 := (HL0.out.on b2).cellAt 3 (by simp)
  have o4 := (HL0.out.on b2).cellAt 4 (by simp)
  simp only [List.getElem_toArray, List.getElem_cons_zero, List.getElem_cons_succ] at a0 a1 a2 a3 a4 o2 o3 o4
  obtain ⟨V2, hV2⟩ : ∃ V2, V2 = w2.setCell ⟨w.heap.size + 1 + 1, 2, none⟩ (.slice (some ⟨g2, 0, none⟩) h.n2 h.n2) := ⟨_, rfl⟩
  have HO2 := Lib.hid (show Only w.heap.size W.heap.size w2 V2 by rw [hV2]; have := HS.out; exact (Only.refl _ _ _).setCell (by simp; omega) (by simp; omega) _)
  have HM0 := Lib.hid (show Blk V2 w.heap.size _ _ by rw [hV2]; exact (HL0.out.on b2).far (p := ⟨w.heap.size + 1 + 1, 2, none⟩) (by simp; omega) _)
  have HM1 := Lib.hid (show Blk V2 (w.heap.size + 1) _ _ by rw [hV2]; exact (HL1.out.on b2).far (p := ⟨w.heap.size + 1 + 1, 2, none⟩) (by simp) _)
  have HM2 := Lib.hid (show Blk V2 (w.heap.size + 1 + 1) 36 #[.int .i64 d.net.sta, .slice (some ⟨g1, 0, none⟩) h.n1 h.n1, .slice (some ⟨g2, 0, none⟩) h.n2 h.n2, .slice none 0 0, .string ⟨#[]⟩] by rw [hV2]; exact (HL2.out.on b2).set_ 2 _)
  have HB2 := Lib.hid (bonly (bnext HB1.out b2 (Nat.le_refl _)) HO2.out (Nat.le_refl _) (Nat.le_refl _))
  have S2 := Lib.hid (s2.apart HO2.out (.inr (by have := HO1.out.size; have := HZ1.out; omega)))
  have T2 := Lib.hid ((S1.out.on b2).apart HO2.out (.inr (Nat.le_refl _)))
  have HV2 := Lib.hid hV2
  have HZ2 := Lib.hid b2.size
  clear s2 b2 hV2
  go_wp2_with fail
  rw [← HV2.out]
  clear a0 a1 a2 a3 a4 o2 o3 o4 f0 f1 f2 f3 f4
  refine (toRunS_any h.A3 h.n3 h.c3 B d.runs V2 (HR.out.runs.on hB HB2.out) (Nat.le_trans hB HB2.out.size) HD.out.n3 HD.out.runs).mono ?_
  rintro e w3 ⟨g3, rfl, s3, b3⟩
  have a0 := (HM2.out.on b3).cellAt 0 (by simp)
  have f0 := (HM2.out.on b3).frozen 0
  have a1 := (HM2.out.on b3).cellAt 1 (by simp)
  have f1 := (HM2.out.on b3).frozen 1
  have a2 := (HM2.out.on b3).cellAt 2 (by simp)
  have f2 := (HM2.out.on b3).frozen 2
  have a3 := (HM2.out.on b3).cellAt 3 (by simp)
  have f3 := (HM2.out.on b3).frozen 3
  have a4 := (HM2.out.on b3).cellAt 4 (by simp)
  have f4 := (HM2.out.on b3).frozen 4
  have o2 := (HM0.out.on b3).cellAt 2 (by simp)
  have o3 := (HM0.out.on b3).cellAt 3 (by simp)
  have o4 := (HM0.out.on b3).cellAt 4 (by simp)
  have e0 := (HM1.out.on b3).cellAt 0 (by simp)
  have i0 := (HM1.out.on b3).frozen 0
  have e1 := (HM1.out.on b3).cellAt 1 (by simp)
  have i1 := (HM1.out.on b3).frozen 1
  have e2 := (HM1.out.on b3).cellAt 2 (by simp)
  have i2 := (HM1.out.on b3).frozen 2
  have e3 := (HM1.out.on b3).cellAt 3 (by simp)
  have i3 := (HM1.out.on b3).frozen 3
  have e4 := (HM1.out.on b3).cellAt 4 (by simp)
  have i4 := (HM1.out.on b3).frozen 4
  simp only [List.getElem_toArray, List.getElem_cons_zero, List.getElem_cons_succ] at a0 a1 a2 a3 a4 o2 o3 o4 e0 e1 e2 e3 e4
  have S3 := Lib.hid s3
  have HB3 := Lib.hid b3
  have T3 := Lib.hid (T2.out.on b3)
  have U3 := Lib.hid (S2.out.on b3)
  clear s3 b3
  go_wp2
  obtain ⟨WF, hWF⟩ : ∃ WF, WF = (((((((w3.setCell ⟨w.heap.size + 1 + 1, 3, none⟩ (.slice (some ⟨g3, 0, none⟩) h.n3 h.n3)).setCell ⟨w.heap.size + 1 + 1, 4, none⟩ (.string d.log)).setCell ⟨w.heap.size + 1, 0, none⟩ (.int .i64 d.net.sta)).setCell ⟨w.heap.size + 1, 1, none⟩ (.slice (some ⟨g1, 0, none⟩) h.n1 h.n1)).setCell ⟨w.heap.size + 1, 2, none⟩ (.slice (some ⟨g2, 0, none⟩) h.n2 h.n2)).setCell ⟨w.heap.size + 1, 3, none⟩ (.slice (some ⟨g3, 0, none⟩) h.n3 h.n3)).setCell ⟨w.heap.size + 1, 4, none⟩ (.string d.log)) := ⟨_, rfl⟩
  have KF : Blk WF (w.heap.size + 1) 36 #[.int .i64 d.net.sta, .slice (some ⟨g1, 0, none⟩) h.n1 h.n1, .slice (some ⟨g2, 0, none⟩) h.n2 h.n2, .slice (some ⟨g3, 0, none⟩) h.n3 h.n3, .string d.log] := by
    rw [hWF]
    exact ((((((((HM1.out.on HB3.out).far (p := ⟨w.heap.size + 1 + 1, 3, none⟩) (by simp) _).far (p := ⟨w.heap.size + 1 + 1, 4, none⟩) (by simp) _).set_ 0 _).set_ 1 _).set_ 2 _).set_ 3 _).set_ 4 _)
  have hO : Only w.heap.size W.heap.size w3 WF := by
    rw [hWF]
    have := HS.out
    exact ((((((((Only.refl _ _ _).setCell (by simp; omega) (by simp; omega) _).setCell (by simp; omega) (by simp; omega) _).setCell (by simp) (by simp; omega) _).setCell (by simp) (by simp; omega) _).setCell (by simp) (by simp; omega) _).setCell (by simp) (by simp; omega) _).setCell (by simp) (by simp; omega) _)
  rw [← hWF]
  clear hWF a0 a1 a2 a3 a4 o2 o3 o4 e0 e1 e2 e3 e4 f0 f1 f2 f3 f4 i0 i1 i2 i3 i4
  have r0 := KF.cellAt 0 (by simp)
  have r1 := KF.cellAt 1 (by simp)
  have r2 := KF.cellAt 2 (by simp)
  have r3 := KF.cellAt 3 (by simp)
  have r4 := KF.cellAt 4 (by simp)
  simp only [List.getElem_toArray, List.getElem_cons_zero, List.getElem_cons_succ] at r0 r1 r2 r3 r4
  refine bodyPost_ret (v := .agg #[.int .i64 d.net.sta, .slice (some ⟨g1, 0, none⟩) h.n1 h.n1, .slice (some ⟨g2, 0, none⟩) h.n2 h.n2, .slice (some ⟨g3, 0, none⟩) h.n3 h.n3, .string d.log]) (by simp [results, Tryz.results6, go_sem, r0, r1, r2, r3, r4]) rfl ?_
  have z1 := HZ1.out
  have z6 := HZ2.out
  have z2 := HO1.out.size
  have z3 := HB3.out.size
  have z4 := hO.size
  have z5 := HO2.out.size
  refine ⟨⟨some ⟨g1, 0, none⟩, h.n1, h.n1, some ⟨g2, 0, none⟩, h.n2, h.n2, some ⟨g3, 0, none⟩, h.n3, h.n3⟩, rfl, ⟨?_, ?_, ?_⟩, ⟨HD.out.n1, HD.out.n2, HD.out.n3, HD.out.runs, HD.out.log⟩, bonly (bnext HB2.out HB3.out (Nat.le_refl _)) hO (Nat.le_refl _) (Nat.le_refl _)⟩
  · exact (T3.out.apart hO (.inr (Nat.le_refl _))).reads (by omega)
  · exact (U3.out.apart hO (.inr (by omega))).reads (by omega)
  · exact (S3.out.apart hO (.inr (by omega))).reads hO.size

end Go.Proofs.YtgcepomehgedfaaGreatDoor
