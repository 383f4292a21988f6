/- Clients as texts, both sides. -/
import Derived.Test.YtafbehpgnmdglaaDoorTab
import Derived.Test.YtafbehpgnmdglaaDoorClA
import Derived.Deep.RegionHeld3
set_option linter.unusedVariables false
set_option linter.unusedSimpArgs false
namespace Go.Proofs.YtafbehpgnmdglaaDoor
open Go.RowKit Go.Lib

def textCl (x : Cl) : ByteArray := if okCl x = true then x.name ++ ⟨#[64]⟩ ++ asBytes (itoa x.station) ++ ⟨#[32]⟩ ++ asBytes (itoa x.from_) ++ ⟨#[45]⟩ ++ asBytes (itoa x.to_) ++ ⟨#[32, 120]⟩ ++ asBytes (itoa x.quota) else ⟨#[]⟩
theorem textCl_no {x : Cl} (h : okCl x = false) : textCl x = ⟨#[]⟩ := by simp [textCl, h]
theorem textCl_yes {x : Cl} (h : okCl x = true) : textCl x = x.name ++ ⟨#[64]⟩ ++ asBytes (itoa x.station) ++ ⟨#[32]⟩ ++ asBytes (itoa x.from_) ++ ⟨#[45]⟩ ++ asBytes (itoa x.to_) ++ ⟨#[32, 120]⟩ ++ asBytes (itoa x.quota) := by simp only [textCl, h, if_true]

set_option maxHeartbeats 4000000 in
set_option maxRecDepth 100000 in
theorem implClientText_any (x : Cl) (w : World) (hx : x.good) (ht : TabP w) :
    Calls Tryd.prog 18 #[.agg #[.string x.name, .int .i64 x.station, .int .i64 x.from_, .int .i64 x.to_, .int .i64 x.quota]] w fun e w' => e = .returned (.string (textCl x)) ∧ Below w.heap.size w w' := by
  have HT := Lib.hid ht
  clear ht
  rcases h1 : okCl x with _ | _
  · have HO := Lib.hid (textCl_no h1)
    go_enter Tryd.func18, Tryd.ntmps18
    go_wp2_with fail
    obtain ⟨wq, hwq⟩ : ∃ y, w.alloc (.cells #[.string x.name, .int .i64 x.station, .int .i64 x.from_, .int .i64 x.to_, .int .i64 x.quota] 26) = y := ⟨_, rfl⟩
    have bq : Below w.heap.size w wq := by rw [← hwq]; exact (Below.refl _ _).alloc (Nat.le_refl _) _
    rw [hwq]
    clear hwq
    refine (validClient_any x _ hx.1).mono ?_
    rintro e w1 ⟨rfl, b1⟩
    have HB := Lib.hid (bnext bq b1 (Nat.le_refl _))
    clear bq b1
    go_wp2
    go_ret
    exact ⟨by rw [HO.out]; rfl, HB.out⟩
  · have HO := Lib.hid (textCl_yes h1)
    obtain ⟨e1, ⟨s0, s1⟩, ⟨f0, f1⟩, ⟨t0, t1⟩, ⟨q0', q1'⟩⟩ := okCl_iff.1 h1
    have hnm := (isName_len e1).2
    have hs1 : (asBytes (itoa x.station)).size ≤ 20 := by rw [asBytes_size]; exact itoa_len (by omega) (by omega)
    have hs2 : (asBytes (itoa x.from_)).size ≤ 20 := by rw [asBytes_size]; exact itoa_len (by omega) (by omega)
    have hs3 : (asBytes (itoa x.to_)).size ≤ 20 := by rw [asBytes_size]; exact itoa_len (by omega) (by omega)
    have hs4 : (asBytes (itoa x.quota)).size ≤ 20 := by rw [asBytes_size]; exact itoa_len (by omega) (by omega)
    go_enter Tryd.func18, Tryd.ntmps18
    go_wp2_with fail
    obtain ⟨wq, hwq⟩ : ∃ y, w.alloc (.cells #[.string x.name, .int .i64 x.station, .int .i64 x.from_, .int .i64 x.to_, .int .i64 x.quota] 26) = y := ⟨_, rfl⟩
    have bq : Below w.heap.size w wq := by rw [← hwq]; exact (Below.refl _ _).alloc (Nat.le_refl _) _
    have yq : Blk wq w.heap.size 26 #[.string x.name, .int .i64 x.station, .int .i64 x.from_, .int .i64 x.to_, .int .i64 x.quota] := by rw [← hwq]; exact Blk.new _ _ _
    rw [hwq]
    clear hwq
    refine (validClient_any x _ hx.1).mono ?_
    rintro e w1 ⟨rfl, b1⟩
    have y1 := yq.on b1
    have HB := Lib.hid (bnext bq b1 (Nat.le_refl _))
    have HT1 := Lib.hid (tabUp HT.out (bnext bq b1 (Nat.le_refl _)))
    have q0 : w1.cell? ⟨w.heap.size, 0, none⟩ = some (.string x.name) := y1.cellAt 0 (by simp)
    have q1 : w1.cell? ⟨w.heap.size, 1, none⟩ = some (.int .i64 x.station) := y1.cellAt 1 (by simp)
    have q2 : w1.cell? ⟨w.heap.size, 2, none⟩ = some (.int .i64 x.from_) := y1.cellAt 2 (by simp)
    have q3 : w1.cell? ⟨w.heap.size, 3, none⟩ = some (.int .i64 x.to_) := y1.cellAt 3 (by simp)
    have q4 : w1.cell? ⟨w.heap.size, 4, none⟩ = some (.int .i64 x.quota) := y1.cellAt 4 (by simp)
    clear bq b1 yq y1
    have n1 : ¬ (9223372036854775807 < x.name.size + 1) := by omega
    have n2 : ¬ (9223372036854775807 < x.name.size + 1 + (asBytes (itoa x.station)).size) := by omega
    have n3 : ¬ (9223372036854775807 < x.name.size + 1 + (asBytes (itoa x.station)).size + 1) := by omega
    have n4 : ¬ (9223372036854775807 < x.name.size + 1 + (asBytes (itoa x.station)).size + 1 + (asBytes (itoa x.from_)).size) := by omega
    have n5 : ¬ (9223372036854775807 < x.name.size + 1 + (asBytes (itoa x.station)).size + 1 + (asBytes (itoa x.from_)).size + 1) := by omega
    have n6 : ¬ (9223372036854775807 < x.name.size + 1 + (asBytes (itoa x.station)).size + 1 + (asBytes (itoa x.from_)).size + 1 + (asBytes (itoa x.to_)).size) := by omega
    have n7 : ¬ (9223372036854775807 < x.name.size + 1 + (asBytes (itoa x.station)).size + 1 + (asBytes (itoa x.from_)).size + 1 + (asBytes (itoa x.to_)).size + 2) := by omega
    have n8 : ¬ (9223372036854775807 < x.name.size + 1 + (asBytes (itoa x.station)).size + 1 + (asBytes (itoa x.from_)).size + 1 + (asBytes (itoa x.to_)).size + 2 + (asBytes (itoa x.quota)).size) := by omega
    go_wp2_with fail
    go_region_held3 (fun W => Below w1.heap.size w1 W ∧ W.cell? ⟨w.heap.size, 0, none⟩ = some (.string x.name) ∧ W.cell? ⟨w.heap.size, 1, none⟩ = some (.int .i64 x.station) ∧ W.cell? ⟨w.heap.size, 2, none⟩ = some (.int .i64 x.from_) ∧ W.cell? ⟨w.heap.size, 3, none⟩ = some (.int .i64 x.to_) ∧ W.cell? ⟨w.heap.size, 4, none⟩ = some (.int .i64 x.quota)) (first | exact ⟨(Below.refl _ _).drew, q0, q1, q2, q3, q4⟩ | (go_split_ands; exact ⟨bnext (by assumption) hb1 (Nat.le_refl _), cell_on hb1 (by assumption), cell_on hb1 (by assumption), cell_on hb1 (by assumption), cell_on hb1 (by assumption), cell_on hb1 (by assumption)⟩) | fail "keep") (first | (go_at_call 60; go_split_ands; refine (decimal_any _ _ (by omega) (by omega) (tabUp HT1.out (by assumption))).mono ?_; rintro e w2 ⟨rfl, hb1⟩) | fail "arm")
    rename_i hS
    have HF := Lib.hid (bnext HB.out hS.1 (Nat.le_refl _))
    go_wp2
    go_ret
    exact ⟨by rw [HO.out]; rfl, HF.out⟩
end Go.Proofs.YtafbehpgnmdglaaDoor
