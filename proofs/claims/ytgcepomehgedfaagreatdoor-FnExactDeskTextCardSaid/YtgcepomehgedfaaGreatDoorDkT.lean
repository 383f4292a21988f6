/- The desk as text, both sides. -/
import Derived.Test.YtgcepomehgedfaaGreatDoorVdY
import Derived.Test.YtgcepomehgedfaaGreatDoorTab
import Derived.Test.YtgcepomehgedfaaGreatDoorDecW
import Derived.Deep.RegionHeld3
set_option linter.unusedVariables false
set_option linter.unusedSimpArgs false
namespace Go.Proofs.YtgcepomehgedfaaGreatDoor
open Go.RowKit Go.Lib

def textD (s : Int) (m k : Nat) : ByteArray := asBytes (itoa s) ++ ⟨#[32, 115, 116, 97, 116, 105, 111, 110, 115, 44, 32]⟩ ++ asBytes (itoa (m : Int)) ++ ⟨#[32, 116, 105, 109, 101, 115, 44, 32]⟩ ++ asBytes (itoa (k : Int)) ++ ⟨#[32, 114, 117, 110, 115]⟩
def textDk (d : Dk) : ByteArray := if okDk d = true then textD d.net.sta d.times.length d.runs.length else ⟨#[]⟩
theorem textDk_no {d : Dk} (h : okDk d = false) : textDk d = ⟨#[]⟩ := by simp [textDk, h]
theorem textDk_yes {d : Dk} (h : okDk d = true) : textDk d = textD d.net.sta d.times.length d.runs.length := by simp [textDk, h]
theorem okDk_sta {d : Dk} (h : okDk d = true) : 2 ≤ d.net.sta ∧ d.net.sta ≤ 10 := by
  unfold okDk okNt at h
  simp only [Bool.and_eq_true] at h
  exact inR_true.1 h.1.1
theorem DkR.n2eq {w : World} {B : Nat} {h : DkH} {d : Dk} (hr : DkR w B h d) : d.times.length = h.n2 := ints_len hr.times
theorem DkR.n3eq {w : World} {B : Nat} {h : DkH} {d : Dk} (hr : DkR w B h d) : d.runs.length = h.n3 := hr.runs.len

set_option maxHeartbeats 4000000 in
set_option maxRecDepth 100000 in
theorem l28Text_any (h : DkH) (d : Dk) (g : Nat) (w : World) (hs0 : 0 ≤ d.net.sta) (hs9 : d.net.sta ≤ 10) (h2 : h.n2 ≤ 1048576) (h3 : h.n3 ≤ 1048576) (y0 : Blk w g 36 #[.int .i64 d.net.sta, .slice h.A1 h.n1 h.c1, .slice h.A2 h.n2 h.c2, .slice h.A3 h.n3 h.c3, .string d.log]) :
    Calls Tryz.prog 13 #[.pointer (some ⟨g, 0, none⟩)] w fun e w' => e = .returned (.string (textD d.net.sta h.n2 h.n3)) ∧ Below w.heap.size w w' := by
  have q0 := y0.cellAt 0 (by simp)
  have q2 := y0.cellAt 2 (by simp)
  have q3 := y0.cellAt 3 (by simp)
  simp only [List.getElem_toArray, List.getElem_cons_zero, List.getElem_cons_succ] at q0 q2 q3
  clear y0
  have hs1 : (asBytes (itoa d.net.sta)).size ≤ 20 := by rw [asBytes_size]; exact itoa_len (by omega) (by omega)
  have hs2 : (asBytes (itoa (h.n2 : Int))).size ≤ 20 := by rw [asBytes_size]; exact itoa_len (by omega) (by omega)
  have hs3 : (asBytes (itoa (h.n3 : Int))).size ≤ 20 := by rw [asBytes_size]; exact itoa_len (by omega) (by omega)
  have n1 : ¬ (9223372036854775807 < (asBytes (itoa d.net.sta)).size + 11) := by omega
  have n2 : ¬ (9223372036854775807 < (asBytes (itoa d.net.sta)).size + 11 + (asBytes (itoa (h.n2 : Int))).size) := by omega
  have n3 : ¬ (9223372036854775807 < (asBytes (itoa d.net.sta)).size + 11 + (asBytes (itoa (h.n2 : Int))).size + 8) := by omega
  have n4 : ¬ (9223372036854775807 < (asBytes (itoa d.net.sta)).size + 11 + (asBytes (itoa (h.n2 : Int))).size + 8 + (asBytes (itoa (h.n3 : Int))).size) := by omega
  have n5 : ¬ (9223372036854775807 < (asBytes (itoa d.net.sta)).size + 11 + (asBytes (itoa (h.n2 : Int))).size + 8 + (asBytes (itoa (h.n3 : Int))).size + 5) := by omega
  go_enter Tryz.func13, Tryz.ntmps13
  go_wp2_with fail
  go_region_held3 (fun W => Below w.heap.size w W ∧ W.cell? ⟨g, 0, none⟩ = some (.int .i64 d.net.sta) ∧ W.cell? ⟨g, 2, none⟩ = some (.slice h.A2 h.n2 h.c2) ∧ W.cell? ⟨g, 3, none⟩ = some (.slice h.A3 h.n3 h.c3)) (first | exact ⟨(Below.refl _ _).drew, q0, q2, q3⟩ | (go_split_ands; exact ⟨bnext (by assumption) hb1 (Nat.le_refl _), cell_on hb1 (by assumption), cell_on hb1 (by assumption), cell_on hb1 (by assumption)⟩) | (go_split_ands; exact ⟨by assumption, by assumption, by assumption, by assumption⟩) | fail "keep") (first | (go_at_call 27; go_split_ands; refine (l01Dec_any _ _ (by omega) (by omega)).mono ?_; rintro e w2 ⟨rfl, hb1⟩) | fail "arm")
  rename_i hS
  have HF := Lib.hid hS.1
  go_wp2
  go_ret
  exact ⟨rfl, HF.out⟩

set_option maxHeartbeats 4000000 in
set_option maxRecDepth 100000 in
theorem specDeskText_any (h : DkH) (d : Dk) (B : Nat) (w : World) (hr : DkR w B h d) (hs : DkS h d) (hB : B ≤ w.heap.size) :
    Calls Tryz.prog 5 #[.agg #[.int .i64 d.net.sta, .slice h.A1 h.n1 h.c1, .slice h.A2 h.n2 h.c2, .slice h.A3 h.n3 h.c3, .string d.log]] w fun e w' => e = .returned (.string (textDk d)) ∧ Below w.heap.size w w' := by
  obtain ⟨W, hW, y0, hb⟩ : ∃ W, W = w.alloc (.cells #[.int .i64 d.net.sta, .slice h.A1 h.n1 h.c1, .slice h.A2 h.n2 h.c2, .slice h.A3 h.n3 h.c3, .string d.log] 36) ∧ Blk W w.heap.size 36 #[.int .i64 d.net.sta, .slice h.A1 h.n1 h.c1, .slice h.A2 h.n2 h.c2, .slice h.A3 h.n3 h.c3, .string d.log] ∧ Below w.heap.size w W := ⟨_, rfl, Blk.new _ _ _, (Below.refl _ _).alloc (Nat.le_refl _) _⟩
  have HW := Lib.hid hW
  have HB := Lib.hid hb
  have HY := Lib.hid y0
  have HR := Lib.hid hr
  have HS := Lib.hid hs
  clear hW hb y0 hr hs
  go_enter Tryz.func5, Tryz.ntmps5
  go_wp2_with fail
  rw [← HW.out]
  refine (l28Ok_any h d B _ W (HR.out.on hB HB.out) HS.out (Nat.le_trans hB HB.out.size) HY.out).mono ?_
  rintro e w1 ⟨rfl, b1⟩
  have HB1 := Lib.hid (bnext HB.out b1 (Nat.le_refl _))
  have HY1 := Lib.hid (HY.out.on b1)
  clear b1
  rcases e1 : okDk d with _ | _
  · have HO := Lib.hid (textDk_no e1)
    go_wp2
    go_ret
    exact ⟨by rw [HO.out]; rfl, HB1.out⟩
  · have HO := Lib.hid (textDk_yes e1)
    have h9 := okDk_sta e1
    go_wp2_with fail
    refine (l28Text_any h d _ w1 (by omega) h9.2 HS.out.n2 HS.out.n3 HY1.out).mono ?_
    rintro e w2 ⟨rfl, b2⟩
    have HB2 := Lib.hid (bnext HB1.out b2 (Nat.le_refl _))
    clear b2
    go_wp2
    go_ret
    exact ⟨by rw [HO.out, HR.out.n2eq, HR.out.n3eq]; rfl, HB2.out⟩

set_option maxHeartbeats 4000000 in
set_option maxRecDepth 100000 in
theorem implDeskText_any (h : DkH) (d : Dk) (m : Int) (B : Nat) (w : World) (hr : DkR w B h d) (hs : DkS h d) (hB : B ≤ w.heap.size) (hm : w.cell? ⟨3, 0, none⟩ = some (.int .i64 m)) (ht : TabP w) (hv : SynP w) :
    Calls Tryz.prog 7 #[.agg #[.int .i64 d.net.sta, .slice h.A1 h.n1 h.c1, .slice h.A2 h.n2 h.c2, .slice h.A3 h.n3 h.c3, .string d.log]] w fun e w' => e = .returned (.string (textDk d)) ∧ Below w.heap.size w w' := by
  obtain ⟨W, hW, y0, hb⟩ : ∃ W, W = w.alloc (.cells #[.int .i64 d.net.sta, .slice h.A1 h.n1 h.c1, .slice h.A2 h.n2 h.c2, .slice h.A3 h.n3 h.c3, .string d.log] 36) ∧ Blk W w.heap.size 36 #[.int .i64 d.net.sta, .slice h.A1 h.n1 h.c1, .slice h.A2 h.n2 h.c2, .slice h.A3 h.n3 h.c3, .string d.log] ∧ Below w.heap.size w W := ⟨_, rfl, Blk.new _ _ _, (Below.refl _ _).alloc (Nat.le_refl _) _⟩
  have HW := Lib.hid hW
  have HB := Lib.hid hb
  have HY := Lib.hid y0
  have HR := Lib.hid hr
  have HS := Lib.hid hs
  have HM := Lib.hid (cell_on hb hm)
  have HT := Lib.hid (tabUp ht hb)
  have HV := Lib.hid (synUp hv hb)
  clear hW hb hr hs hm ht hv
  have a0 := y0.cellAt 0 (by simp)
  have a1 := y0.cellAt 1 (by simp)
  have a2 := y0.cellAt 2 (by simp)
  have a3 := y0.cellAt 3 (by simp)
  have a4 := y0.cellAt 4 (by simp)
  simp only [List.getElem_toArray, List.getElem_cons_zero, List.getElem_cons_succ] at a0 a1 a2 a3 a4
  go_enter Tryz.func7, Tryz.ntmps7
  go_upto_region 1 with fail
  rw [← HW.out]
  go_wp2_with fail
  refine (implValidDesk_any h d m B W (HR.out.on hB HB.out) HS.out (Nat.le_trans hB HB.out.size) HM.out HT.out HV.out).mono ?_
  rintro e w1 ⟨rfl, b1⟩
  have HB1 := Lib.hid (bnext HB.out b1 (Nat.le_refl _))
  have q0 := cell_on b1 a0
  have q2 := cell_on b1 a2
  have q3 := cell_on b1 a3
  have HT1 := Lib.hid (tabUp HT.out b1)
  clear b1 y0 a0 a1 a2 a3 a4
  rcases e1 : okDk d with _ | _
  · have HO := Lib.hid (textDk_no e1)
    go_wp2
    go_ret
    exact ⟨by rw [HO.out]; rfl, HB1.out⟩
  have HO := Lib.hid (textDk_yes e1)
  obtain ⟨h8, h9⟩ := okDk_sta e1
  have h2 := HS.out.n2
  have h3 := HS.out.n3
  have hs1 : (asBytes (itoa d.net.sta)).size ≤ 20 := by rw [asBytes_size]; exact itoa_len (by omega) (by omega)
  have hs2 : (asBytes (itoa (h.n2 : Int))).size ≤ 20 := by rw [asBytes_size]; exact itoa_len (by omega) (by omega)
  have hs3 : (asBytes (itoa (h.n3 : Int))).size ≤ 20 := by rw [asBytes_size]; exact itoa_len (by omega) (by omega)
  have n1 : ¬ (9223372036854775807 < (asBytes (itoa d.net.sta)).size + 11) := by omega
  have n2 : ¬ (9223372036854775807 < (asBytes (itoa d.net.sta)).size + 11 + (asBytes (itoa (h.n2 : Int))).size) := by omega
  have n3 : ¬ (9223372036854775807 < (asBytes (itoa d.net.sta)).size + 11 + (asBytes (itoa (h.n2 : Int))).size + 8) := by omega
  have n4 : ¬ (9223372036854775807 < (asBytes (itoa d.net.sta)).size + 11 + (asBytes (itoa (h.n2 : Int))).size + 8 + (asBytes (itoa (h.n3 : Int))).size) := by omega
  have n5 : ¬ (9223372036854775807 < (asBytes (itoa d.net.sta)).size + 11 + (asBytes (itoa (h.n2 : Int))).size + 8 + (asBytes (itoa (h.n3 : Int))).size + 5) := by omega
  go_wp2_with fail
  go_region_held3 (fun W => Below w1.heap.size w1 W ∧ W.cell? ⟨w.heap.size, 0, none⟩ = some (.int .i64 d.net.sta) ∧ W.cell? ⟨w.heap.size, 2, none⟩ = some (.slice h.A2 h.n2 h.c2) ∧ W.cell? ⟨w.heap.size, 3, none⟩ = some (.slice h.A3 h.n3 h.c3)) (first | exact ⟨(Below.refl _ _).drew, q0, q2, q3⟩ | (go_split_ands; exact ⟨bnext (by assumption) hb1 (Nat.le_refl _), cell_on hb1 (by assumption), cell_on hb1 (by assumption), cell_on hb1 (by assumption)⟩) | (go_split_ands; exact ⟨by assumption, by assumption, by assumption, by assumption⟩) | fail "keep") (first | (go_at_call 18; go_split_ands; refine (decimal_any _ _ (by omega) (by omega) (tabUp HT1.out (by assumption))).mono ?_; rintro e w2 ⟨rfl, hb1⟩) | fail "arm")
  rename_i hS
  have HF := Lib.hid (bnext HB1.out hS.1 (Nat.le_refl _))
  go_wp2
  go_ret
  exact ⟨by rw [HO.out, HR.out.n2eq, HR.out.n3eq]; rfl, HF.out⟩
end Go.Proofs.YtgcepomehgedfaaGreatDoor
