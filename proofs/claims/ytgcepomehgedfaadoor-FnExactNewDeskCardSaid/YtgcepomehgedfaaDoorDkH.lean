/- The desk compared: by the law, by the reference, by the program. -/
import Derived.Test.YtgcepomehgedfaaDoorDkG
set_option linter.unusedVariables false
namespace Go.Proofs.YtgcepomehgedfaaDoor
open Go.RowKit

theorem rns_n {w : World} {B n n' : Nat} {A A' : Option Addr} {rs : List Rn} (h : RunsR w B A n rs) (h' : RunsR w B A' n' rs) : n = n' := h.len.symm.trans h'.len
set_option maxHeartbeats 2000000 in
theorem eqDesk_same (h h' : DkH) (d : Dk) (B : Nat) (w : World) (hr : DkR w B h d) (hr' : DkR w B h' d) (hs : DkS h d) (hB : B ≤ w.heap.size) :
    Calls Tryd.prog 6 #[.agg #[.int .i64 d.net.sta, .slice h.A1 h.n1 h.c1, .slice h.A2 h.n2 h.c2, .slice h.A3 h.n3 h.c3, .string d.log], .agg #[.int .i64 d.net.sta, .slice h'.A1 h'.n1 h'.c1, .slice h'.A2 h'.n2 h'.c2, .slice h'.A3 h'.n3 h'.c3, .string d.log]] w fun e w' => e = .returned (.bool true) ∧ Below w.heap.size w w' := by
  obtain ⟨A1, n1, c1, A2, n2, c2, A3, n3, c3⟩ := h
  obtain ⟨A1', n1', c1', A2', n2', c2', A3', n3', c3'⟩ := h'
  obtain ⟨ht, hi, hu⟩ := hr
  obtain ⟨ht', hi', hu'⟩ := hr'
  obtain ⟨s1, s2, s3, s4, s5⟩ := hs
  simp only at ht hi hu ht' hi' hu' s1 s2 s3
  obtain rfl : n1 = n1' := (tbs_len ht).symm.trans (tbs_len ht')
  obtain rfl : n2 = n2' := (ints_len hi).symm.trans (ints_len hi')
  obtain rfl : n3 = n3' := rns_n hu hu'
  obtain ⟨W, hW, hz, k0, k1, hb⟩ := two_al w #[.int .i64 d.net.sta, .slice A1 n1 c1, .slice A2 n2 c2, .slice A3 n3 c3, .string d.log] #[.int .i64 d.net.sta, .slice A1' n1 c1', .slice A2' n2 c2', .slice A3' n3 c3', .string d.log] 28 28
  have HW := Lib.hid hW
  have HK0 := Lib.hid k0
  have HK1 := Lib.hid k1
  have HB := Lib.hid hb
  have HT := Lib.hid (And.intro ht ht')
  have HI := Lib.hid (And.intro hi hi')
  have HU := Lib.hid (And.intro hu hu')
  have HSM := Lib.hid s4
  have hlog : (d.log.toList == d.log.toList) = true := by simp
  clear hW k0 k1 hb ht ht' hi hi' hu hu' s4 hz
  go_enter Tryd.func6, Tryd.ntmps6
  go_wp2_with fail
  rw [← HW.out]
  refine (eqNet_same A1 A1' n1 c1 c1' B d.net W (HT.out.1.on hB HB.out) (HT.out.2.on hB HB.out) (Nat.le_trans hB HB.out.size) s1).mono ?_
  rintro e w1 ⟨rfl, b1⟩
  have HB1 := Lib.hid (bnext HB.out b1 (Nat.le_refl _))
  have HL0 := Lib.hid (HK0.out.on b1)
  have HL1 := Lib.hid (HK1.out.on b1)
  have a2 := (HK0.out.on b1).cellAt 2 (by simp)
  have b2 := (HK1.out.on b1).cellAt 2 (by simp)
  have a3 := (HK0.out.on b1).cellAt 3 (by simp)
  have b3 := (HK1.out.on b1).cellAt 3 (by simp)
  simp only [List.getElem_toArray, List.getElem_cons_zero, List.getElem_cons_succ] at a2 b2 a3 b3
  clear b1
  go_wp2_with fail
  refine (lawInt64S_any A2 n2 c2 d.times A2' n2 c2' d.times B w1 (HI.out.1.on hB HB1.out) (HI.out.2.on hB HB1.out) s2 s2).mono ?_
  rintro e w2 ⟨rfl, q2, hq2⟩
  rw [sameL_refl sameI_refl]
  have b22 : Below w1.heap.size w1 w2 := by rw [hq2]; exact below_drewN (Below.refl _ _) _
  have HB2 := Lib.hid (bnext HB1.out b22 (Nat.le_refl _))
  have HM0 := Lib.hid (HL0.out.on b22)
  have HM1 := Lib.hid (HL1.out.on b22)
  have a3 := (HL0.out.on b22).cellAt 3 (by simp)
  have b3 := (HL1.out.on b22).cellAt 3 (by simp)
  simp only [List.getElem_toArray, List.getElem_cons_zero, List.getElem_cons_succ] at a3 b3
  clear b22 hq2 a2 b2
  go_wp2_with fail
  refine (eqRunS_same A3 A3' n3 c3 c3' B d.runs w2 (HU.out.1.on hB HB2.out) (HU.out.2.on hB HB2.out) s3 (Nat.le_trans hB HB2.out.size) HSM.out).mono ?_
  rintro e w3 ⟨rfl, b33⟩
  have HB3 := Lib.hid (bnext HB2.out b33 (Nat.le_refl _))
  have a4 := (HM0.out.on b33).cellAt 4 (by simp)
  have b4 := (HM1.out.on b33).cellAt 4 (by simp)
  simp only [List.getElem_toArray, List.getElem_cons_zero, List.getElem_cons_succ] at a4 b4
  clear b33 a3 b3
  go_wp2
  go_ret
  exact ⟨rfl, HB3.out⟩

end Go.Proofs.YtgcepomehgedfaaDoor
