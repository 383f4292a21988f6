/- The net tested by the reference. -/
import Derived.Test.YtgcepomehgedfaaGreatDoorVdN
import Derived.Deep.RegionHeld3
import Derived.BigQuiet
set_option linter.unusedVariables false
namespace Go.Proofs.YtgcepomehgedfaaGreatDoor
open Go.RowKit

set_option maxHeartbeats 4000000 in
theorem l02Ok_any (A : Option Addr) (n c B g : Nat) (x : Nt) (w : World) (h : Reads w B 3 A n (tbs x.tubes)) (hB : B ≤ w.heap.size) (hn : n ≤ 1048576) (k0 : w.cell? ⟨g, 0, none⟩ = some (.int .i64 x.sta)) (k1 : w.cell? ⟨g, 1, none⟩ = some (.slice A n c)) :
    Calls Tryz.prog 25 #[.pointer (some ⟨g, 0, none⟩)] w fun e w' => e = .returned (.bool (okNt x)) ∧ Below w.heap.size w w' := by
  have HL := Lib.hid (tbs_len h)
  rcases e1 : inR x.sta 2 10 with _ | _
  · have HO := Lib.hid (show okNt x = false by simp [okNt, e1])
    go_enter Tryz.func25, Tryz.ntmps25
    go_wp2_with fail
    refine (l00In_any _ _ _ _).mono ?_
    rintro e w1 ⟨rfl, rfl⟩
    rw [e1]
    go_wp2
    go_ret
    exact ⟨ret_bool HO.out.symm, Below.refl _ _⟩
  obtain ⟨h0, h1⟩ := inR_true.1 e1
  by_cases h24 : n ≤ 24
  · have HO := Lib.hid (show okNt x = x.tubes.all (okTb x.sta) by simp [okNt, e1, HL.out, h24])
    go_enter Tryz.func25, Tryz.ntmps25
    go_wp2_with fail
    refine (l00In_any _ _ _ _).mono ?_
    rintro e w1 ⟨rfl, rfl⟩
    rw [e1]
    go_wp2
    go_loopw [3] (fun i wr => ∃ k : Nat, k ≤ n ∧ i = .int .i64 k ∧ AllTo (okTb x.sta) x.tubes k ∧ Below w.heap.size w wr) (fun i _ => n - (intOf i).toNat)
    case atStart => exact ⟨0, Nat.zero_le _, rfl, AllTo.zero _ _, Below.refl _ _⟩
    case round =>
      obtain ⟨k, hk, rfl, hall, hbel⟩ := hrel
      have HA := Lib.hid hall
      have HB := Lib.hid hbel
      have z0 := cell_on hbel k0
      have z1 := cell_on hbel k1
      clear hall
      by_cases hlt : k < n
      · obtain ⟨t, b, off, he, rfl, hb, c0, c1, c2⟩ := tb_at (h.on hB hbel) hlt
        have HE := Lib.hid he
        have hi0 : (0 : Int) ≤ k := by omega
        have hi1 : (k : Int) < n := by omega
        clear he hbel h k0 k1
        rcases ho : okTb x.sta t with _ | _
        · have HF := Lib.hid (show okNt x = false from HO.out.trans (all_bad HE.out ho))
          go_wp2_with fail
          go_region_held3 (fun W => Below wr.heap.size wr W ∧ W.cell? ⟨b, off + k * 3, none⟩ = some (.int .i64 t.from_) ∧ W.cell? ⟨b, off + k * 3 + 1, none⟩ = some (.int .i64 t.to_) ∧ W.cell? ⟨b, off + k * 3 + 2, none⟩ = some (.int .i64 t.len) ∧ W.cell? ⟨g, 0, none⟩ = some (.int .i64 x.sta) ∧ W.cell? ⟨g, 1, none⟩ = some (.slice (some ⟨b, off, none⟩) n c)) (first | exact ⟨(Below.refl _ _).drew, c0, c1, c2, z0, z1⟩ | (go_split_ands; exact ⟨bnext (by assumption) hb1 (Nat.le_refl _), cell_on hb1 (by assumption), cell_on hb1 (by assumption), cell_on hb1 (by assumption), cell_on hb1 (by assumption), cell_on hb1 (by assumption)⟩)) (first | (go_at_call 38; refine (l02Tube_any x.sta t _ h0 h1).mono ?_; rw [ho]; rintro e w1 ⟨rfl, hb1⟩))
          rename_i hS
          have HS := Lib.hid (bnext HB.out hS.1 (Nat.le_refl _))
          clear hS hb1 c0 c1 c2 z0 z1
          go_wp2
          go_ret
          exact ⟨ret_bool HF.out.symm, HS.out⟩
        · have HT := Lib.hid ho
          go_wp2_with fail
          go_region_held3 (fun W => Below wr.heap.size wr W ∧ W.cell? ⟨b, off + k * 3, none⟩ = some (.int .i64 t.from_) ∧ W.cell? ⟨b, off + k * 3 + 1, none⟩ = some (.int .i64 t.to_) ∧ W.cell? ⟨b, off + k * 3 + 2, none⟩ = some (.int .i64 t.len) ∧ W.cell? ⟨g, 0, none⟩ = some (.int .i64 x.sta) ∧ W.cell? ⟨g, 1, none⟩ = some (.slice (some ⟨b, off, none⟩) n c)) (first | exact ⟨(Below.refl _ _).drew, c0, c1, c2, z0, z1⟩ | (go_split_ands; exact ⟨bnext (by assumption) hb1 (Nat.le_refl _), cell_on hb1 (by assumption), cell_on hb1 (by assumption), cell_on hb1 (by assumption), cell_on hb1 (by assumption), cell_on hb1 (by assumption)⟩)) (first | (go_at_call 38; refine (l02Tube_any x.sta t _ h0 h1).mono ?_; rw [ho]; rintro e w1 ⟨rfl, hb1⟩))
          rename_i hS
          have HS := Lib.hid (bnext HB.out hS.1 (Nat.le_refl _))
          clear hS hb1 c0 c1 c2 z0 z1
          go_wp2
          go_roundw
          case rel => exact ⟨k + 1, by omega, by go_num, HA.out.step HE.out HT.out, HS.out⟩
          case measure => simp [intOf]; omega
      · obtain rfl : k = n := by omega
        have HF := Lib.hid (show okNt x = true from HO.out.trans (HA.out.done HL.out))
        go_wp2
        go_ret
        exact ⟨ret_bool HF.out.symm, HB.out⟩
  · have HO := Lib.hid (show okNt x = false by simp [okNt, e1, HL.out, h24])
    go_enter Tryz.func25, Tryz.ntmps25
    go_wp2_with fail
    refine (l00In_any _ _ _ _).mono ?_
    rintro e w1 ⟨rfl, rfl⟩
    rw [e1]
    go_wp2
    go_ret
    exact ⟨ret_bool HO.out.symm, Below.refl _ _⟩
end Go.Proofs.YtgcepomehgedfaaGreatDoor
