/- FnExactNewDesk: the program's NewDesk returns what the reference's returns. -/
import Derived.Test.YtgcepomehgedfaaDoorNwD
import Derived.Test.YtgcepomehgedfaaDoorDkH
set_option linter.unusedVariables false
set_option linter.unusedSimpArgs false
namespace Go.Proofs.YtgcepomehgedfaaDoor.lawNewDesk
open Go.RowKit Go.Proofs.YtgcepomehgedfaaDoor

set_option maxHeartbeats 2000000 in
set_option maxRecDepth 100000 in
theorem walk (w : World) (m : Int) (hm : w.cell? ⟨0, 0, none⟩ = some (.int .i64 m)) (ht : TabP w) (hs : SynP w) :
    Calls Tryd.prog 3 #[] w fun e w' => e = .returned (.bool true) ∧ Below w.heap.size w w' := by
  have HM := Lib.hid hm
  have HT := Lib.hid ht
  have HS := Lib.hid hs
  clear hm ht hs
  go_enter Tryd.func3, Tryd.ntmps3
  go_wp2_with fail
  refine (specNewDesk_any w).mono ?_
  rintro e w1 ⟨h1, rfl, o1, b1⟩
  have HB1 := Lib.hid b1
  have O1 := Lib.hid o1
  clear b1 o1
  go_upto_region 2 with fail
  obtain ⟨v1, hv1⟩ : ∃ y, w1.alloc (.cells #[.int .i64 3, .slice h1.A1 h1.n1 h1.c1, .slice h1.A2 h1.n2 h1.c2, .slice h1.A3 h1.n3 h1.c3, .string ⟨#[]⟩] 28) = y := ⟨_, rfl⟩
  have l1 : Below w1.heap.size w1 v1 := by rw [← hv1]; exact (Below.refl _ _).alloc (Nat.le_refl _) _
  have y1 : Blk v1 w1.heap.size 28 #[.int .i64 3, .slice h1.A1 h1.n1 h1.c1, .slice h1.A2 h1.n2 h1.c2, .slice h1.A3 h1.n3 h1.c3, .string ⟨#[]⟩] := by rw [← hv1]; exact Blk.new _ _ _
  have z1 : v1.heap.size = w1.heap.size + 1 := by rw [← hv1]; simp
  rw [hv1]
  have HV1 := Lib.hid (bnext HB1.out l1 (Nat.le_refl _))
  have P1 := Lib.hid (O1.out.on l1)
  have Y1 := Lib.hid y1
  have Z1 := Lib.hid z1
  clear hv1 l1 y1 z1
  go_wp2_with fail
  refine (implNewDesk_any m v1 (cell_on HV1.out HM.out) (tabUp HT.out HV1.out) (synUp HS.out HV1.out)).mono ?_
  rintro e w2 ⟨h2, rfl, o2, b2⟩
  have HB2 := Lib.hid (bnext HV1.out b2 (Nat.le_refl _))
  have O2 := Lib.hid o2
  have P2 := Lib.hid (P1.out.on b2)
  have Y2 := Lib.hid (Y1.out.on b2)
  have HZ2 := Lib.hid b2.size
  clear b2 o2
  go_upto_region 3 with fail
  obtain ⟨v2, hx2⟩ : ∃ y, w2.alloc (.cells #[.int .i64 3, .slice h2.A1 h2.n1 h2.c1, .slice h2.A2 h2.n2 h2.c2, .slice h2.A3 h2.n3 h2.c3, .string ⟨#[]⟩] 28) = y := ⟨_, rfl⟩
  have l2 : Below w2.heap.size w2 v2 := by rw [← hx2]; exact (Below.refl _ _).alloc (Nat.le_refl _) _
  have q2 : Blk v2 w2.heap.size 28 #[.int .i64 3, .slice h2.A1 h2.n1 h2.c1, .slice h2.A2 h2.n2 h2.c2, .slice h2.A3 h2.n3 h2.c3, .string ⟨#[]⟩] := by rw [← hx2]; exact Blk.new _ _ _
  have z2 : v2.heap.size = w2.heap.size + 1 := by rw [← hx2]; simp
  rw [hx2]
  have HV2 := Lib.hid (bnext HB2.out l2 (Nat.le_refl _))
  have P3 := Lib.hid (P2.out.on l2)
  have O3 := Lib.hid (O2.out.on l2)
  have X1 := Lib.hid (Y2.out.on l2)
  have X2 := Lib.hid q2
  have Z2 := Lib.hid z2
  clear hx2 l2 q2 z2
  have a0 := X1.out.cellAt 0 (by simp)
  have a1 := X1.out.cellAt 1 (by simp)
  have a2 := X1.out.cellAt 2 (by simp)
  have a3 := X1.out.cellAt 3 (by simp)
  have a4 := X1.out.cellAt 4 (by simp)
  simp only [List.getElem_toArray, List.getElem_cons_zero, List.getElem_cons_succ] at a0 a1 a2 a3 a4
  have c0 := X2.out.cellAt 0 (by simp)
  have c1 := X2.out.cellAt 1 (by simp)
  have c2 := X2.out.cellAt 2 (by simp)
  have c3 := X2.out.cellAt 3 (by simp)
  have c4 := X2.out.cellAt 4 (by simp)
  simp only [List.getElem_toArray, List.getElem_cons_zero, List.getElem_cons_succ] at c0 c1 c2 c3 c4
  go_wp2_with fail
  refine (eqDesk_same h2 h1 desk0 v2.heap.size v2 (O3.out.reads (by have := Z2.out; omega)) (P3.out.reads (by have := Z1.out; have := HZ2.out; have := Z2.out; omega)) (desk0_S O3.out) (Nat.le_refl _)).mono ?_
  rintro e w3 ⟨rfl, b3⟩
  have HB3 := Lib.hid (bnext HV2.out b3 (Nat.le_refl _))
  have P4 := Lib.hid (P3.out.on b3)
  have O4 := Lib.hid (O3.out.on b3)
  have X3 := Lib.hid (X1.out.on b3)
  have X4 := Lib.hid (X2.out.on b3)
  have HZ3 := Lib.hid b3.size
  clear b3 a0 a1 a2 a3 a4 c0 c1 c2 c3 c4
  have c0 := X4.out.cellAt 0 (by simp)
  have c1 := X4.out.cellAt 1 (by simp)
  have c2 := X4.out.cellAt 2 (by simp)
  have c3 := X4.out.cellAt 3 (by simp)
  have c4 := X4.out.cellAt 4 (by simp)
  simp only [List.getElem_toArray, List.getElem_cons_zero, List.getElem_cons_succ] at c0 c1 c2 c3 c4
  go_wp2_with fail
  refine (markDesk_k h2 desk0 [] _ _ 1 w3 O4.out (desk0_S O4.out) (by decide) (by decide)).mono ?_
  rintro e w4 ⟨rfl, r4, f4⟩
  have D4 := Lib.hid (desk0_S O4.out)
  have X5 := Lib.hid (X3.out.off f4 fun hb => by have := (O4.out.inD_lt hb).1; have := Z1.out; omega)
  have X6 := Lib.hid (X4.out.off f4 fun hb => by have := (O4.out.inD_lt hb).2; omega)
  have P5 := Lib.hid (P4.out.off f4 fun b hb hb' => by have := (O4.out.inD_lt hb').1; have := (P4.out.inD_lt hb).2; have := Z1.out; omega)
  have HB4 := Lib.hid (HB3.out.trans (f4.below (B := w.heap.size) (fun b hb => by have := (O4.out.inD_lt hb).1; have := HV1.out.size; omega) HB3.out.size))
  have R4 := Lib.hid r4
  have HZ4 := Lib.hid f4.size
  obtain ⟨k3, hk3⟩ : ∃ q, k3D 1 desk0 = q := ⟨_, rfl⟩
  have K3 := Lib.hid hk3
  have hkp : 0 ≤ k3 := by rw [← hk3]; decide
  rw [hk3]
  clear r4 f4 c0 c1 c2 c3 c4 hk3
  have c0 := X6.out.cellAt 0 (by simp)
  have c1 := X6.out.cellAt 1 (by simp)
  have c2 := X6.out.cellAt 2 (by simp)
  have c3 := X6.out.cellAt 3 (by simp)
  have c4 := X6.out.cellAt 4 (by simp)
  simp only [List.getElem_toArray, List.getElem_cons_zero, List.getElem_cons_succ] at c0 c1 c2 c3 c4
  go_wp2_with fail
  have hB4 : w2.heap.size ≤ w4.heap.size := by have := HZ4.out; have := HZ3.out; have := Z2.out; omega
  refine (heldDesk_k h2 desk0 w2.heap.size 1 w4 R4.out hB4 D4.out (by decide) (by decide)).mono ?_
  rintro e w5 ⟨rfl, b5⟩
  rw [K3.out]
  have HB5 := Lib.hid (bnext HB4.out b5 (Nat.le_refl _))
  have R5 := Lib.hid (R4.out.on hB4 b5)
  have P6 := Lib.hid (P5.out.on b5)
  have X7 := Lib.hid (X5.out.on b5)
  have X8 := Lib.hid (X6.out.on b5)
  have HZ5 := Lib.hid (Nat.le_trans hB4 b5.size)
  have hg : decide (k3 < 0) = false := decide_eq_false (by omega)
  clear b5 c0 c1 c2 c3 c4 hB4
  go_wp2_with fail
  refine (implNewDesk_any m w5 (cell_on HB5.out HM.out) (tabUp HT.out HB5.out) (synUp HS.out HB5.out)).mono ?_
  rintro e w6 ⟨h6, rfl, o6, b6⟩
  have HB6 := Lib.hid (bnext HB5.out b6 (Nat.le_refl _))
  have O6 := Lib.hid o6
  have R6 := Lib.hid (R5.out.on HZ5.out b6)
  have P7 := Lib.hid (P6.out.on b6)
  have X9 := Lib.hid (X7.out.on b6)
  have XA := Lib.hid (X8.out.on b6)
  have HZ6 := Lib.hid b6.size
  clear b6 o6
  go_upto_region 14 with fail
  obtain ⟨v6, hv6⟩ : ∃ y, w6.alloc (.cells #[.int .i64 3, .slice h6.A1 h6.n1 h6.c1, .slice h6.A2 h6.n2 h6.c2, .slice h6.A3 h6.n3 h6.c3, .string ⟨#[]⟩] 28) = y := ⟨_, rfl⟩
  have l6 : Below w6.heap.size w6 v6 := by rw [← hv6]; exact (Below.refl _ _).alloc (Nat.le_refl _) _
  have q6 : Blk v6 w6.heap.size 28 #[.int .i64 3, .slice h6.A1 h6.n1 h6.c1, .slice h6.A2 h6.n2 h6.c2, .slice h6.A3 h6.n3 h6.c3, .string ⟨#[]⟩] := by rw [← hv6]; exact Blk.new _ _ _
  have z6 : v6.heap.size = w6.heap.size + 1 := by rw [← hv6]; simp
  rw [hv6]
  have HV6 := Lib.hid (bnext HB6.out l6 (Nat.le_refl _))
  have O7 := Lib.hid (O6.out.on l6)
  have R7 := Lib.hid (R6.out.on (Nat.le_trans HZ5.out HZ6.out) l6)
  have P8 := Lib.hid (P7.out.on l6)
  have XB := Lib.hid (X9.out.on l6)
  have XC := Lib.hid (XA.out.on l6)
  have XD := Lib.hid q6
  have Z6 := Lib.hid z6
  clear hv6 l6 q6 z6
  have c0 := XD.out.cellAt 0 (by simp)
  have c1 := XD.out.cellAt 1 (by simp)
  have c2 := XD.out.cellAt 2 (by simp)
  have c3 := XD.out.cellAt 3 (by simp)
  have c4 := XD.out.cellAt 4 (by simp)
  simp only [List.getElem_toArray, List.getElem_cons_zero, List.getElem_cons_succ] at c0 c1 c2 c3 c4
  have a0 := XB.out.cellAt 0 (by simp)
  have a1 := XB.out.cellAt 1 (by simp)
  have a2 := XB.out.cellAt 2 (by simp)
  have a3 := XB.out.cellAt 3 (by simp)
  have a4 := XB.out.cellAt 4 (by simp)
  simp only [List.getElem_toArray, List.getElem_cons_zero, List.getElem_cons_succ] at a0 a1 a2 a3 a4
  go_wp2_with fail
  refine (eqDesk_same h6 h1 desk0 v6.heap.size v6 (O7.out.reads (by have := Z6.out; omega)) (P8.out.reads (by have := Z1.out; have := HZ2.out; have := HZ5.out; have := HZ6.out; have := Z6.out; omega)) (desk0_S O7.out) (Nat.le_refl _)).mono ?_
  rintro e w7 ⟨rfl, b7⟩
  have HB7 := Lib.hid (bnext HV6.out b7 (Nat.le_refl _))
  have hB7 : w2.heap.size ≤ v6.heap.size := by have := HZ5.out; have := HZ6.out; have := Z6.out; omega
  have R8 := Lib.hid (R7.out.on hB7 b7)
  have XE := Lib.hid (XC.out.on b7)
  have HZ7 := Lib.hid (Nat.le_trans hB7 b7.size)
  clear b7 a0 a1 a2 a3 a4 c0 c1 c2 c3 c4 hB7
  have c0 := XE.out.cellAt 0 (by simp)
  have c1 := XE.out.cellAt 1 (by simp)
  have c2 := XE.out.cellAt 2 (by simp)
  have c3 := XE.out.cellAt 3 (by simp)
  have c4 := XE.out.cellAt 4 (by simp)
  simp only [List.getElem_toArray, List.getElem_cons_zero, List.getElem_cons_succ] at c0 c1 c2 c3 c4
  go_wp2_with fail
  refine (heldDesk_k h2 desk0 w2.heap.size 1 w7 R8.out HZ7.out D4.out (by decide) (by decide)).mono ?_
  rintro e w8 ⟨rfl, b8⟩
  rw [K3.out]
  have HB8 := Lib.hid (bnext HB7.out b8 (Nat.le_refl _))
  clear b8 c0 c1 c2 c3 c4
  go_wp2
  go_ret
  exact ⟨rfl, HB8.out⟩
end Go.Proofs.YtgcepomehgedfaaDoor.lawNewDesk
