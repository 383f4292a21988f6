/- All runs tested by the program. -/
import Derived.Test.YtgcepomehgedfaaGreatDoorVdW
set_option linter.unusedVariables false
set_option linter.unusedSimpArgs false
namespace Go.Proofs.YtgcepomehgedfaaGreatDoor
open Go.RowKit

theorem indexFuncRn_any (P : Option Addr) (m d : Nat) (ts : List Int) (A : Option Addr) (n c B g : Nat) (rs : List Rn) (w : World) (h : RunsR w B A n rs) (hB : B ≤ w.heap.size) (hn : n ≤ 1048576) (hsm : SmallR rs) (hm : m ≤ 1048576) (hts : ts.length = m) (k0 : w.cell? ⟨g, 0, none⟩ = some (.slice P m d)) :
    Calls Tryz.prog 58 #[.slice A n c, .func (.func 49) #[] #[.pointer (some ⟨g, 0, none⟩)]] w fun e w' => e = .returned (.int .i64 (idxI (fun x => !okRun ts x) rs)) ∧ Below w.heap.size w w' := by
  have hl := Lib.hid h.len
  have HSM := Lib.hid hsm
  clear hsm
  go_enter Tryz.func58, Tryz.ntmps58
  go_wp2
  go_loopw [8] (fun i wr => ∃ k : Nat, k ≤ n ∧ i = .int .i64 k ∧ AllTo (okRun ts) rs k ∧ Below w.heap.size w wr) (fun i _ => n - (intOf i).toNat)
  case atStart => exact ⟨0, Nat.zero_le _, rfl, AllTo.zero _ _, Below.refl _ _⟩
  case round =>
    obtain ⟨k, hk, rfl, hall, hbel⟩ := hrel
    have HA := Lib.hid hall
    have HB := Lib.hid hbel
    have z0 := cell_on hbel k0
    clear hall
    by_cases hlt : k < n
    · obtain ⟨x, b, off, P', m', d', he, rfl, hb, c0, c1, hr, hm'⟩ := run_at (h.on hB hbel) hlt
      have hm2 : m' ≤ 1048576 := by have := HSM.out k x he; have := ints_len hr; omega
      have HE := Lib.hid he
      have hBw := Nat.le_trans hB hbel.size
      have HR := Lib.hid hr
      clear he hbel h hr
      go_wp2_with fail
      refine (validRuns1_any P m d ts P' m' d' B g x _ HR.out hBw hm2 hm hts z0).mono ?_
      rintro e w1 ⟨rfl, b1⟩
      have HF := Lib.hid (bnext HB.out b1 (Nat.le_refl _))
      clear b1 c0 c1 z0
      rcases ho : okRun ts x with _ | _
      · have HO := Lib.hid (show idxI (fun x => !okRun ts x) rs = k from idxI_found HE.out (by simp [ho]) (HA.out.imp fun x hx => by simp [hx]))
        go_wp2
        go_ret
        exact ⟨ret_int HO.out.symm, HF.out⟩
      · have HO := Lib.hid ho
        go_wp2
        go_roundw
        case rel => exact ⟨k + 1, by omega, by go_num, HA.out.step HE.out HO.out, HF.out⟩
        case measure => simp [intOf]; omega
    · obtain rfl : k = n := by omega
      have HO := Lib.hid (show idxI (fun x => !okRun ts x) rs = -1 from idxI_none (HA.out.imp fun x hx => by simp [hx]) hl.out)
      go_wp2
      go_ret
      exact ⟨ret_int HO.out.symm, HB.out⟩
theorem containsFuncRn_any (P : Option Addr) (m d : Nat) (ts : List Int) (A : Option Addr) (n c B g : Nat) (rs : List Rn) (w : World) (h : RunsR w B A n rs) (hB : B ≤ w.heap.size) (hn : n ≤ 1048576) (hsm : SmallR rs) (hm : m ≤ 1048576) (hts : ts.length = m) (k0 : w.cell? ⟨g, 0, none⟩ = some (.slice P m d)) :
    Calls Tryz.prog 48 #[.slice A n c, .func (.func 49) #[] #[.pointer (some ⟨g, 0, none⟩)]] w fun e w' => e = .returned (.bool (!rs.all (okRun ts))) ∧ Below w.heap.size w w' := by
  have HO := Lib.hid (show decide (0 ≤ idxI (fun x => !okRun ts x) rs) = !rs.all (okRun ts) from by rw [idxI_nonneg]; simp [List.any_eq_not_all_not])
  go_enter Tryz.func48, Tryz.ntmps48
  go_wp2_with fail
  refine (indexFuncRn_any P m d ts A n c B g rs w h hB hn hsm hm hts k0).mono ?_
  rintro e w1 ⟨rfl, b1⟩
  go_wp2
  go_ret
  exact ⟨ret_bool HO.out, b1⟩

set_option maxHeartbeats 1000000 in
theorem implValidRuns_any (P : Option Addr) (m d : Nat) (ts : List Int) (A : Option Addr) (n c B : Nat) (rs : List Rn) (w : World) (ht : Reads w B 1 P m (ints ts)) (h : RunsR w B A n rs) (hB : B ≤ w.heap.size) (hm : m ≤ 1048576) (hn : n ≤ 1048576) (hsm : SmallR rs) :
    Calls Tryz.prog 31 #[.slice P m d, .slice A n c] w fun e w' => e = .returned (.bool (okRuns ts rs)) ∧ Below w.heap.size w w' := by
  have HT := Lib.hid (ints_len ht)
  have HL := Lib.hid h.len
  obtain ⟨W, hW, y0, hb⟩ : ∃ W, W = w.alloc (.cells #[.slice P m d] 25) ∧ Blk W w.heap.size 25 #[.slice P m d] ∧ Below w.heap.size w W := ⟨_, rfl, Blk.new _ _ _, (Below.refl _ _).alloc (Nat.le_refl _) _⟩
  have HW := Lib.hid hW
  have HB := Lib.hid hb
  have HY := Lib.hid y0
  have HX := Lib.hid (ht.on hB hb)
  have HR := Lib.hid (h.on hB hb)
  clear hW hb y0 ht h
  go_enter Tryz.func31, Tryz.ntmps31
  go_wp2_with fail
  rw [← HW.out]
  refine (validTimes_any P m d B ts W HX.out (Nat.le_trans hB HB.out.size) hm).mono ?_
  rintro e w1 ⟨rfl, b1⟩
  have HB1 := Lib.hid (bnext HB.out b1 (Nat.le_refl _))
  have c0 := (HY.out.on b1).cellAt 0 (by simp)
  have HR1 := Lib.hid (HR.out.on (Nat.le_trans hB HB.out.size) b1)
  simp only [List.getElem_toArray, List.getElem_cons_zero] at c0
  clear b1
  rcases e1 : okTimes ts with _ | _
  · have HO := Lib.hid (show okRuns ts rs = false by simp [okRuns, e1])
    go_wp2
    go_ret
    exact ⟨ret_bool HO.out.symm, HB1.out⟩
  by_cases h12 : n ≤ 12
  · have HO := Lib.hid (show okRuns ts rs = rs.all (okRun ts) by simp [okRuns, e1, HL.out, h12])
    go_wp2_with fail
    refine (containsFuncRn_any P m d ts A n c B w.heap.size rs w1 HR1.out (Nat.le_trans hB HB1.out.size) hn hsm hm HT.out c0).mono ?_
    rintro e w2 ⟨rfl, b2⟩
    go_wp2
    go_ret
    exact ⟨ret_bool (by rw [HO.out]; try simp), bnext HB1.out b2 (Nat.le_refl _)⟩
  · have HO := Lib.hid (show okRuns ts rs = false by simp [okRuns, e1, HL.out, h12])
    go_wp2
    go_ret
    exact ⟨ret_bool HO.out.symm, HB1.out⟩
end Go.Proofs.YtgcepomehgedfaaGreatDoor
