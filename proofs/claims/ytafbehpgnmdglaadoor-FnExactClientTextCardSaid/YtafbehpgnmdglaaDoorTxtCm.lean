/- Clients as texts, as the reference says it. -/
import Derived.Test.YtafbehpgnmdglaaDoorTxtCl
set_option linter.unusedVariables false
set_option linter.unusedSimpArgs false
namespace Go.Proofs.YtafbehpgnmdglaaDoor
open Go.RowKit Go.Lib

set_option maxHeartbeats 4000000 in
set_option maxRecDepth 100000 in
theorem l24Text_any (x : Cl) (b : Nat) (w : World) (h1 : okCl x = true) (q0 : w.cell? ⟨b, 0, none⟩ = some (.string x.name)) (q1 : w.cell? ⟨b, 1, none⟩ = some (.int .i64 x.station)) (q2 : w.cell? ⟨b, 2, none⟩ = some (.int .i64 x.from_)) (q3 : w.cell? ⟨b, 3, none⟩ = some (.int .i64 x.to_)) (q4 : w.cell? ⟨b, 4, none⟩ = some (.int .i64 x.quota)) :
    Calls Tryd.prog 58 #[.pointer (some ⟨b, 0, none⟩)] w fun e w' => e = .returned (.string (textCl x)) ∧ Below w.heap.size w w' := by
  have HO := Lib.hid (textCl_yes h1)
  obtain ⟨e1, ⟨s0, s1⟩, ⟨f0, f1⟩, ⟨t0, t1⟩, ⟨q0', q1'⟩⟩ := okCl_iff.1 h1
  have hnm := (isName_len e1).2
  have hs1 : (asBytes (itoa x.station)).size ≤ 20 := by rw [asBytes_size]; exact itoa_len (by omega) (by omega)
  have hs2 : (asBytes (itoa x.from_)).size ≤ 20 := by rw [asBytes_size]; exact itoa_len (by omega) (by omega)
  have hs3 : (asBytes (itoa x.to_)).size ≤ 20 := by rw [asBytes_size]; exact itoa_len (by omega) (by omega)
  have hs4 : (asBytes (itoa x.quota)).size ≤ 20 := by rw [asBytes_size]; exact itoa_len (by omega) (by omega)
  have n1 : ¬ (9223372036854775807 < x.name.size + 1) := by omega
  have n2 : ¬ (9223372036854775807 < x.name.size + 1 + (asBytes (itoa x.station)).size) := by omega
  have n3 : ¬ (9223372036854775807 < x.name.size + 1 + (asBytes (itoa x.station)).size + 1) := by omega
  have n4 : ¬ (9223372036854775807 < x.name.size + 1 + (asBytes (itoa x.station)).size + 1 + (asBytes (itoa x.from_)).size) := by omega
  have n5 : ¬ (9223372036854775807 < x.name.size + 1 + (asBytes (itoa x.station)).size + 1 + (asBytes (itoa x.from_)).size + 1) := by omega
  have n6 : ¬ (9223372036854775807 < x.name.size + 1 + (asBytes (itoa x.station)).size + 1 + (asBytes (itoa x.from_)).size + 1 + (asBytes (itoa x.to_)).size) := by omega
  have n7 : ¬ (9223372036854775807 < x.name.size + 1 + (asBytes (itoa x.station)).size + 1 + (asBytes (itoa x.from_)).size + 1 + (asBytes (itoa x.to_)).size + 2) := by omega
  have n8 : ¬ (9223372036854775807 < x.name.size + 1 + (asBytes (itoa x.station)).size + 1 + (asBytes (itoa x.from_)).size + 1 + (asBytes (itoa x.to_)).size + 2 + (asBytes (itoa x.quota)).size) := by omega
  go_enter Tryd.func58, Tryd.ntmps58
  go_wp2_with fail
  go_region_held3 (fun W => Below w.heap.size w W ∧ W.cell? ⟨b, 0, none⟩ = some (.string x.name) ∧ W.cell? ⟨b, 1, none⟩ = some (.int .i64 x.station) ∧ W.cell? ⟨b, 2, none⟩ = some (.int .i64 x.from_) ∧ W.cell? ⟨b, 3, none⟩ = some (.int .i64 x.to_) ∧ W.cell? ⟨b, 4, none⟩ = some (.int .i64 x.quota)) (first | exact ⟨(Below.refl _ _).drew, q0, q1, q2, q3, q4⟩ | (go_split_ands; exact ⟨bnext (by assumption) hb1 (Nat.le_refl _), cell_on hb1 (by assumption), cell_on hb1 (by assumption), cell_on hb1 (by assumption), cell_on hb1 (by assumption), cell_on hb1 (by assumption)⟩) | fail "keep") (first | (go_at_call 62; refine (l01Dec_any _ _ (by omega) (by omega)).mono ?_; rintro e w2 ⟨rfl, hb1⟩) | fail "arm")
  rename_i hS
  have HF := Lib.hid hS.1
  go_wp2
  go_ret
  exact ⟨by rw [HO.out]; rfl, HF.out⟩

set_option maxHeartbeats 2000000 in
set_option maxRecDepth 100000 in
theorem specClientText_any (x : Cl) (w : World) (hx : x.good) :
    Calls Tryd.prog 16 #[.agg #[.string x.name, .int .i64 x.station, .int .i64 x.from_, .int .i64 x.to_, .int .i64 x.quota]] w fun e w' => e = .returned (.string (textCl x)) ∧ Below w.heap.size w w' := by
  rcases h1 : okCl x with _ | _
  all_goals
    go_enter Tryd.func16, Tryd.ntmps16
    go_wp2_with fail
    obtain ⟨wq, hwq⟩ : ∃ y, w.alloc (.cells #[.string x.name, .int .i64 x.station, .int .i64 x.from_, .int .i64 x.to_, .int .i64 x.quota] 26) = y := ⟨_, rfl⟩
    have bq : Below w.heap.size w wq := by rw [← hwq]; exact (Below.refl _ _).alloc (Nat.le_refl _) _
    have yq : Blk wq w.heap.size 26 #[.string x.name, .int .i64 x.station, .int .i64 x.from_, .int .i64 x.to_, .int .i64 x.quota] := by rw [← hwq]; exact Blk.new _ _ _
    rw [hwq]
    clear hwq
    have q0 : wq.cell? ⟨w.heap.size, 0, none⟩ = some (.string x.name) := yq.cellAt 0 (by simp)
    have q1 : wq.cell? ⟨w.heap.size, 1, none⟩ = some (.int .i64 x.station) := yq.cellAt 1 (by simp)
    have q2 : wq.cell? ⟨w.heap.size, 2, none⟩ = some (.int .i64 x.from_) := yq.cellAt 2 (by simp)
    have q3 : wq.cell? ⟨w.heap.size, 3, none⟩ = some (.int .i64 x.to_) := yq.cellAt 3 (by simp)
    have q4 : wq.cell? ⟨w.heap.size, 4, none⟩ = some (.int .i64 x.quota) := yq.cellAt 4 (by simp)
    refine (l24One_any x w.heap.size 0 _ hx.1 hx q0 q1 q2 q3 q4).mono ?_
    rintro e w1 ⟨rfl, m, rfl⟩
    clear yq
    have HB := Lib.hid (below_drewN bq m)
    rw [h1]
  · have HO := Lib.hid (textCl_no h1)
    go_wp2
    go_ret
    exact ⟨by rw [HO.out]; rfl, HB.out⟩
  · go_wp2_with fail
    refine (l24Text_any x w.heap.size (wq.drewN m) h1 (show (wq.drewN m).cell? _ = _ from q0) (show (wq.drewN m).cell? _ = _ from q1) (show (wq.drewN m).cell? _ = _ from q2) (show (wq.drewN m).cell? _ = _ from q3) (show (wq.drewN m).cell? _ = _ from q4)).mono ?_
    rintro e w2 ⟨rfl, b2⟩
    have HF := Lib.hid (bnext HB.out b2 (Nat.le_refl _))
    clear b2
    go_wp2
    go_ret
    exact ⟨rfl, HF.out⟩
end Go.Proofs.YtafbehpgnmdglaaDoor
