/- One tube tested. -/
import Derived.Test.YtgcepomehgedfaaDoorDkD
import Derived.Test.YtgcepomehgedfaaDoorRng
import Derived.Deep.DeepCutAuto
import Derived.Orders
set_option linter.unusedVariables false
namespace Go.Proofs.YtgcepomehgedfaaDoor
open Go.RowKit

/-- A tube of a net with s stations. -/
def okTb (s : Int) (t : Tb) : Bool := inR t.from_ 0 (s - 1) && (inR t.to_ 0 (s - 1) && (t.from_ != t.to_ && inR t.len 1 2000))

theorem isStation_any (s k : Int) (A : Option Addr) (n c : Nat) (w : World) (h0 : 2 ≤ s) (h1 : s ≤ 10) :
    Calls Tryd.prog 69 #[.agg #[.int .i64 s, .slice A n c], .int .i64 k] w fun e w' => e = .returned (.bool (inR k 0 (s - 1))) ∧ Below w.heap.size w w' := by
  go_enter Tryd.func69, Tryd.ntmps69
  go_wp2_with fail
  refine (within_any _ _ _ _).mono ?_
  rintro e w1 ⟨rfl, rfl⟩
  go_wp2
  go_ret
  exact ⟨rfl, (Below.refl _ _).alloc (Nat.le_refl _) _⟩


set_option maxHeartbeats 2000000 in
theorem isTube_any (s : Int) (t : Tb) (A : Option Addr) (n c : Nat) (w : World) (h0 : 2 ≤ s) (h1 : s ≤ 10) :
    Calls Tryd.prog 50 #[.agg #[.int .i64 s, .slice A n c], .agg #[.int .i64 t.from_, .int .i64 t.to_, .int .i64 t.len]] w fun e w' => e = .returned (.bool (okTb s t)) ∧ Below w.heap.size w w' := by
  obtain ⟨W, hW, hz, k0, k1, hb⟩ := two_al w #[.int .i64 s, .slice A n c] #[.int .i64 t.from_, .int .i64 t.to_, .int .i64 t.len] 24 42
  have HW := Lib.hid hW
  have HB := Lib.hid hb
  have HK0 := Lib.hid k0
  have HK1 := Lib.hid k1
  clear hW hb k0 k1 hz
  go_enter Tryd.func50, Tryd.ntmps50
  go_wp2_with fail
  rw [← HW.out]
  refine (isStation_any s t.from_ A n c W h0 h1).mono ?_
  rintro e w1 ⟨rfl, b1⟩
  have HB1 := Lib.hid (bnext HB.out b1 (Nat.le_refl _))
  have L0 := Lib.hid (HK0.out.on b1)
  have L1 := Lib.hid (HK1.out.on b1)
  clear b1
  have a0 := L0.out.cellAt 0 (by simp)
  have a1 := L0.out.cellAt 1 (by simp)
  have c0 := L1.out.cellAt 0 (by simp)
  have c1 := L1.out.cellAt 1 (by simp)
  have c2 := L1.out.cellAt 2 (by simp)
  simp only [List.getElem_toArray, List.getElem_cons_zero, List.getElem_cons_succ] at a0 a1 c0 c1 c2
  rcases e1 : inR t.from_ 0 (s - 1) with _ | _
  · have HO := Lib.hid (show okTb s t = false by simp [okTb, e1])
    go_wp2
    go_ret
    exact ⟨ret_bool HO.out.symm, HB1.out⟩
  go_wp2_with fail
  refine (isStation_any s t.to_ A n c w1 h0 h1).mono ?_
  rintro e w2 ⟨rfl, b2⟩
  have HB2 := Lib.hid (bnext HB1.out b2 (Nat.le_refl _))
  have M1 := Lib.hid (L1.out.on b2)
  clear b2 a0 a1 c0 c1 c2
  have c0 := M1.out.cellAt 0 (by simp)
  have c1 := M1.out.cellAt 1 (by simp)
  have c2 := M1.out.cellAt 2 (by simp)
  simp only [List.getElem_toArray, List.getElem_cons_zero, List.getElem_cons_succ] at c0 c1 c2
  rcases e2 : inR t.to_ 0 (s - 1) with _ | _
  · have HO := Lib.hid (show okTb s t = false by simp [okTb, e2])
    go_wp2
    go_ret
    exact ⟨ret_bool HO.out.symm, HB2.out⟩
  rcases e3 : (t.from_ != t.to_) with _ | _
  · have HO := Lib.hid (show okTb s t = false by simp [okTb, e3])
    go_wp2
    go_ret
    exact ⟨ret_bool HO.out.symm, HB2.out⟩
  have HO := Lib.hid (show okTb s t = inR t.len 1 2000 by simp [okTb, e1, e2, e3])
  go_wp2_with fail
  refine (within_any _ _ _ _).mono ?_
  rintro e w3 ⟨rfl, rfl⟩
  rw [← HO.out]
  go_wp2
  go_ret
  exact ⟨rfl, HB2.out⟩


theorem validNet1_any (s : Int) (t : Tb) (A : Option Addr) (n c g : Nat) (w : World) (h0 : 2 ≤ s) (h1 : s ≤ 10) (c0 : w.cell? ⟨g, 0, none⟩ = some (.int .i64 s)) (c1 : w.cell? ⟨g, 1, none⟩ = some (.slice A n c)) :
    Calls Tryd.prog 49 #[.agg #[.int .i64 t.from_, .int .i64 t.to_, .int .i64 t.len], .pointer (some ⟨g, 0, none⟩)] w fun e w' => e = .returned (.bool (!okTb s t)) ∧ Below w.heap.size w w' := by
  have hg := World.block_lt_of_cell? w _ c0
  obtain ⟨W, hW, k0, hb⟩ : ∃ W, W = w.alloc (.cells #[.int .i64 t.from_, .int .i64 t.to_, .int .i64 t.len] 42) ∧ Blk W w.heap.size 42 #[.int .i64 t.from_, .int .i64 t.to_, .int .i64 t.len] ∧ Below w.heap.size w W := ⟨_, rfl, Blk.new _ _ _, (Below.refl _ _).alloc (Nat.le_refl _) _⟩
  have HW := Lib.hid hW
  have HB := Lib.hid hb
  replace c0 := cell_on hb c0
  replace c1 := cell_on hb c1
  have d0 := k0.cellAt 0 (by simp)
  have d1 := k0.cellAt 1 (by simp)
  have d2 := k0.cellAt 2 (by simp)
  simp only [List.getElem_toArray, List.getElem_cons_zero, List.getElem_cons_succ] at d0 d1 d2
  clear hW hb k0
  go_enter Tryd.func49, Tryd.ntmps49
  go_upto_region 1 with fail
  rw [← HW.out]
  go_wp2_with fail
  refine (isTube_any s t A n c W h0 h1).mono ?_
  rintro e w1 ⟨rfl, b1⟩
  go_wp2
  go_ret
  exact ⟨rfl, bnext HB.out b1 (Nat.le_refl _)⟩

end Go.Proofs.YtgcepomehgedfaaDoor
