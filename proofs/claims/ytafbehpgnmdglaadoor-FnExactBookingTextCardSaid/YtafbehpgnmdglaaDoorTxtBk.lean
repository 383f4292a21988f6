/- Bookings as texts, both sides. -/
import Derived.Test.YtafbehpgnmdglaaDoorTab
import Derived.Test.YtafbehpgnmdglaaDoorBkA
import Derived.Deep.RegionHeld3
set_option linter.unusedVariables false
set_option linter.unusedSimpArgs false
namespace Go.Proofs.YtafbehpgnmdglaaDoor
open Go.RowKit Go.Lib

def textBk (x : Bk) : ByteArray := if okBk x = true then (if x.amount < 0 then asBytes (itoa x.day) ++ ⟨#[58, 32]⟩ ++ x.client ++ ⟨#[32, 112, 97, 121, 115, 32]⟩ ++ asBytes (itoa (-x.amount)) else asBytes (itoa x.day) ++ ⟨#[58, 32]⟩ ++ x.client ++ ⟨#[32, 111, 119, 101, 115, 32]⟩ ++ asBytes (itoa x.amount)) else ⟨#[]⟩
theorem textBk_no {x : Bk} (h : okBk x = false) : textBk x = ⟨#[]⟩ := by simp [textBk, h]
theorem textBk_pay {x : Bk} (h : okBk x = true) (ha : x.amount < 0) : textBk x = asBytes (itoa x.day) ++ ⟨#[58, 32]⟩ ++ x.client ++ ⟨#[32, 112, 97, 121, 115, 32]⟩ ++ asBytes (itoa (-x.amount)) := by simp only [textBk, h, ha, if_true]
theorem textBk_owe {x : Bk} (h : okBk x = true) (ha : ¬ x.amount < 0) : textBk x = asBytes (itoa x.day) ++ ⟨#[58, 32]⟩ ++ x.client ++ ⟨#[32, 111, 119, 101, 115, 32]⟩ ++ asBytes (itoa x.amount) := by simp only [textBk, h, ha, if_true, if_false]

set_option maxHeartbeats 4000000 in
set_option maxRecDepth 100000 in
theorem implBookingText_any (x : Bk) (w : World) (hx : x.good) (ht : TabP w) :
    Calls Tryd.prog 22 #[.agg #[.int .i64 x.day, .string x.client, .int .i64 x.amount]] w fun e w' => e = .returned (.string (textBk x)) ∧ Below w.heap.size w w' := by
  have HT := Lib.hid ht
  clear ht
  rcases h1 : okBk x with _ | _
  · have HO := Lib.hid (textBk_no h1)
    go_enter Tryd.func22, Tryd.ntmps22
    go_wp2_with fail
    obtain ⟨wq, hwq⟩ : ∃ y, w.alloc (.cells #[.int .i64 x.day, .string x.client, .int .i64 x.amount] 33) = y := ⟨_, rfl⟩
    have bq : Below w.heap.size w wq := by rw [← hwq]; exact (Below.refl _ _).alloc (Nat.le_refl _) _
    have yq : Blk wq w.heap.size 33 #[.int .i64 x.day, .string x.client, .int .i64 x.amount] := by rw [← hwq]; exact Blk.new _ _ _
    rw [hwq]
    clear hwq
    refine (validBooking_any x _ hx.2.1).mono ?_
    rintro e w1 ⟨rfl, b1⟩
    have HB := Lib.hid (bnext bq b1 (Nat.le_refl _))
    clear bq b1 yq
    go_wp2
    go_ret
    exact ⟨by rw [HO.out]; rfl, HB.out⟩
  · by_cases ha : x.amount < 0
    · have HO := Lib.hid (textBk_pay h1 ha)
      obtain ⟨⟨d0, d1⟩, e1, ⟨a0, a1⟩, a2⟩ := okBk_iff.1 h1
      have hnm := (isName_len e1).2
      have hs1 : (asBytes (itoa x.day)).size ≤ 20 := by rw [asBytes_size]; exact itoa_len (by omega) (by omega)
      have hs2 : (asBytes (itoa (-x.amount))).size ≤ 20 := by rw [asBytes_size]; exact itoa_len (by omega) (by omega)
      have n1 : ¬ (9223372036854775807 < (asBytes (itoa x.day)).size + 2) := by omega
      have n2 : ¬ (9223372036854775807 < (asBytes (itoa x.day)).size + 2 + x.client.size) := by omega
      have n3 : ¬ (9223372036854775807 < (asBytes (itoa x.day)).size + 2 + x.client.size + 6) := by omega
      have n4 : ¬ (9223372036854775807 < (asBytes (itoa x.day)).size + 2 + x.client.size + 6 + (asBytes (itoa (-x.amount))).size) := by omega
      have hwn : IntKind.i64.wrap (-x.amount) = -x.amount := by rw [IntKind.wrap_i64]; omega
      go_enter Tryd.func22, Tryd.ntmps22
      go_wp2_with fail
      obtain ⟨wq, hwq⟩ : ∃ y, w.alloc (.cells #[.int .i64 x.day, .string x.client, .int .i64 x.amount] 33) = y := ⟨_, rfl⟩
      have bq : Below w.heap.size w wq := by rw [← hwq]; exact (Below.refl _ _).alloc (Nat.le_refl _) _
      have yq : Blk wq w.heap.size 33 #[.int .i64 x.day, .string x.client, .int .i64 x.amount] := by rw [← hwq]; exact Blk.new _ _ _
      rw [hwq]
      clear hwq
      refine (validBooking_any x _ hx.2.1).mono ?_
      rintro e w1 ⟨rfl, b1⟩
      have y1 := yq.on b1
      have HB := Lib.hid (bnext bq b1 (Nat.le_refl _))
      have HT1 := Lib.hid (tabUp HT.out (bnext bq b1 (Nat.le_refl _)))
      have q0 : w1.cell? ⟨w.heap.size, 0, none⟩ = some (.int .i64 x.day) := y1.cellAt 0 (by simp)
      have q1 : w1.cell? ⟨w.heap.size, 1, none⟩ = some (.string x.client) := y1.cellAt 1 (by simp)
      have q2 : w1.cell? ⟨w.heap.size, 2, none⟩ = some (.int .i64 x.amount) := y1.cellAt 2 (by simp)
      clear bq b1 yq y1
      go_wp2_with fail
      go_region_held3 (fun W => Below w1.heap.size w1 W ∧ W.cell? ⟨w.heap.size, 0, none⟩ = some (.int .i64 x.day) ∧ W.cell? ⟨w.heap.size, 1, none⟩ = some (.string x.client) ∧ W.cell? ⟨w.heap.size, 2, none⟩ = some (.int .i64 x.amount)) (first | exact ⟨(Below.refl _ _).drew, q0, q1, q2⟩ | (go_split_ands; exact ⟨bnext (by assumption) hb1 (Nat.le_refl _), cell_on hb1 (by assumption), cell_on hb1 (by assumption), cell_on hb1 (by assumption)⟩) | (go_split_ands; exact ⟨by assumption, by assumption, by assumption, by assumption⟩) | fail "keep") (first | (go_at_call 60; go_split_ands; refine (decimal_any _ _ (by omega) (by omega) (tabUp HT1.out (by assumption))).mono ?_; rintro e w2 ⟨rfl, hb1⟩) | fail "arm")
      rename_i hS
      have HF := Lib.hid (bnext HB.out hS.1 (Nat.le_refl _))
      go_wp2
      go_ret
      exact ⟨by rw [HO.out]; rfl, HF.out⟩
    · have HO := Lib.hid (textBk_owe h1 ha)
      obtain ⟨⟨d0, d1⟩, e1, ⟨a0, a1⟩, a2⟩ := okBk_iff.1 h1
      have hnm := (isName_len e1).2
      have hs1 : (asBytes (itoa x.day)).size ≤ 20 := by rw [asBytes_size]; exact itoa_len (by omega) (by omega)
      have hs2 : (asBytes (itoa (x.amount))).size ≤ 20 := by rw [asBytes_size]; exact itoa_len (by omega) (by omega)
      have n1 : ¬ (9223372036854775807 < (asBytes (itoa x.day)).size + 2) := by omega
      have n2 : ¬ (9223372036854775807 < (asBytes (itoa x.day)).size + 2 + x.client.size) := by omega
      have n3 : ¬ (9223372036854775807 < (asBytes (itoa x.day)).size + 2 + x.client.size + 6) := by omega
      have n4 : ¬ (9223372036854775807 < (asBytes (itoa x.day)).size + 2 + x.client.size + 6 + (asBytes (itoa (x.amount))).size) := by omega
      have han : decide (x.amount < 0) = false := decide_eq_false ha
      go_enter Tryd.func22, Tryd.ntmps22
      go_wp2_with fail
      obtain ⟨wq, hwq⟩ : ∃ y, w.alloc (.cells #[.int .i64 x.day, .string x.client, .int .i64 x.amount] 33) = y := ⟨_, rfl⟩
      have bq : Below w.heap.size w wq := by rw [← hwq]; exact (Below.refl _ _).alloc (Nat.le_refl _) _
      have yq : Blk wq w.heap.size 33 #[.int .i64 x.day, .string x.client, .int .i64 x.amount] := by rw [← hwq]; exact Blk.new _ _ _
      rw [hwq]
      clear hwq
      refine (validBooking_any x _ hx.2.1).mono ?_
      rintro e w1 ⟨rfl, b1⟩
      have y1 := yq.on b1
      have HB := Lib.hid (bnext bq b1 (Nat.le_refl _))
      have HT1 := Lib.hid (tabUp HT.out (bnext bq b1 (Nat.le_refl _)))
      have q0 : w1.cell? ⟨w.heap.size, 0, none⟩ = some (.int .i64 x.day) := y1.cellAt 0 (by simp)
      have q1 : w1.cell? ⟨w.heap.size, 1, none⟩ = some (.string x.client) := y1.cellAt 1 (by simp)
      have q2 : w1.cell? ⟨w.heap.size, 2, none⟩ = some (.int .i64 x.amount) := y1.cellAt 2 (by simp)
      clear bq b1 yq y1
      go_wp2_with fail
      go_region_held3 (fun W => Below w1.heap.size w1 W ∧ W.cell? ⟨w.heap.size, 0, none⟩ = some (.int .i64 x.day) ∧ W.cell? ⟨w.heap.size, 1, none⟩ = some (.string x.client) ∧ W.cell? ⟨w.heap.size, 2, none⟩ = some (.int .i64 x.amount)) (first | exact ⟨(Below.refl _ _).drew, q0, q1, q2⟩ | (go_split_ands; exact ⟨bnext (by assumption) hb1 (Nat.le_refl _), cell_on hb1 (by assumption), cell_on hb1 (by assumption), cell_on hb1 (by assumption)⟩) | (go_split_ands; exact ⟨by assumption, by assumption, by assumption, by assumption⟩) | fail "keep") (first | (go_at_call 60; go_split_ands; refine (decimal_any _ _ (by omega) (by omega) (tabUp HT1.out (by assumption))).mono ?_; rintro e w2 ⟨rfl, hb1⟩) | fail "arm")
      rename_i hS
      have HF := Lib.hid (bnext HB.out hS.1 (Nat.le_refl _))
      go_wp2
      go_ret
      exact ⟨by rw [HO.out]; rfl, HF.out⟩

theorem l00Size_txt (n : Int) (w : World) (h : -1000000000 ≤ n) (h2 : n ≤ 1000000000) : Calls Tryd.prog 63 #[.int .i64 n] w fun e w' => e = .returned (.int .i64 (if n < 0 then -n else n)) ∧ w = w' := by
  by_cases hn : n < 0
  · have HI := Lib.hid (show (if n < 0 then -n else n) = -n from if_pos hn)
    go_enter Tryd.func63, Tryd.ntmps63
    go_wp2
    go_ret
    exact ⟨by first | rfl | rw [HI.out], rfl⟩
  · have HI := Lib.hid (show (if n < 0 then -n else n) = n from if_neg hn)
    have hd : decide (n < 0) = false := decide_eq_false hn
    go_enter Tryd.func63, Tryd.ntmps63
    go_wp2
    go_ret
    exact ⟨by first | rfl | rw [HI.out], rfl⟩

set_option maxHeartbeats 4000000 in
set_option maxRecDepth 100000 in
theorem specBookingText_any (x : Bk) (w : World) (hx : x.good) :
    Calls Tryd.prog 20 #[.agg #[.int .i64 x.day, .string x.client, .int .i64 x.amount]] w fun e w' => e = .returned (.string (textBk x)) ∧ Below w.heap.size w w' := by
  rcases h1 : okBk x with _ | _
  · have HO := Lib.hid (textBk_no h1)
    go_enter Tryd.func20, Tryd.ntmps20
    go_wp2_with fail
    obtain ⟨wq, hwq⟩ : ∃ y, w.alloc (.cells #[.int .i64 x.day, .string x.client, .int .i64 x.amount] 33) = y := ⟨_, rfl⟩
    have bq : Below w.heap.size w wq := by rw [← hwq]; exact (Below.refl _ _).alloc (Nat.le_refl _) _
    have yq : Blk wq w.heap.size 33 #[.int .i64 x.day, .string x.client, .int .i64 x.amount] := by rw [← hwq]; exact Blk.new _ _ _
    rw [hwq]
    clear hwq
    have q0 : wq.cell? ⟨w.heap.size, 0, none⟩ = some (.int .i64 x.day) := yq.cellAt 0 (by simp)
    have q1 : wq.cell? ⟨w.heap.size, 1, none⟩ = some (.string x.client) := yq.cellAt 1 (by simp)
    have q2 : wq.cell? ⟨w.heap.size, 2, none⟩ = some (.int .i64 x.amount) := yq.cellAt 2 (by simp)
    refine (l25One_any x w.heap.size 0 _ hx.2.1 q0 q1 q2).mono ?_
    rintro e w1 ⟨rfl, rfl⟩
    have HB := Lib.hid bq
    clear bq yq
    go_wp2
    go_ret
    exact ⟨by rw [HO.out]; rfl, HB.out⟩
  · by_cases ha : x.amount < 0
    · have HO := Lib.hid (textBk_pay h1 ha)
      obtain ⟨⟨d0, d1⟩, e1, ⟨a0, a1⟩, a2⟩ := okBk_iff.1 h1
      have hnm := (isName_len e1).2
      have hs1 : (asBytes (itoa x.day)).size ≤ 20 := by rw [asBytes_size]; exact itoa_len (by omega) (by omega)
      have hs2 : (asBytes (itoa (-x.amount))).size ≤ 20 := by rw [asBytes_size]; exact itoa_len (by omega) (by omega)
      have n1 : ¬ (9223372036854775807 < (asBytes (itoa x.day)).size + 2) := by omega
      have n2 : ¬ (9223372036854775807 < (asBytes (itoa x.day)).size + 2 + x.client.size) := by omega
      have n3 : ¬ (9223372036854775807 < (asBytes (itoa x.day)).size + 2 + x.client.size + 6) := by omega
      have n4 : ¬ (9223372036854775807 < (asBytes (itoa x.day)).size + 2 + x.client.size + 6 + (asBytes (itoa (-x.amount))).size) := by omega
      have hsz : ∀ W : World, Calls Tryd.prog 63 #[.int .i64 x.amount] W fun e w' => e = .returned (.int .i64 (-x.amount)) ∧ W = w' := fun W => by
        have := l00Size_txt x.amount W a0 a1
        rw [if_pos ha] at this
        exact this
      have HSz := Lib.hid hsz
      clear hsz
      go_enter Tryd.func20, Tryd.ntmps20
      go_wp2_with fail
      obtain ⟨wq, hwq⟩ : ∃ y, w.alloc (.cells #[.int .i64 x.day, .string x.client, .int .i64 x.amount] 33) = y := ⟨_, rfl⟩
      have bq : Below w.heap.size w wq := by rw [← hwq]; exact (Below.refl _ _).alloc (Nat.le_refl _) _
      have yq : Blk wq w.heap.size 33 #[.int .i64 x.day, .string x.client, .int .i64 x.amount] := by rw [← hwq]; exact Blk.new _ _ _
      rw [hwq]
      clear hwq
      have q0 : wq.cell? ⟨w.heap.size, 0, none⟩ = some (.int .i64 x.day) := yq.cellAt 0 (by simp)
      have q1 : wq.cell? ⟨w.heap.size, 1, none⟩ = some (.string x.client) := yq.cellAt 1 (by simp)
      have q2 : wq.cell? ⟨w.heap.size, 2, none⟩ = some (.int .i64 x.amount) := yq.cellAt 2 (by simp)
      refine (l25One_any x w.heap.size 0 _ hx.2.1 q0 q1 q2).mono ?_
      rintro e w1 ⟨rfl, rfl⟩
      have HB := Lib.hid bq
      clear bq yq
      go_wp2_with fail
      go_region_held3 (fun W => Below wq.heap.size wq W ∧ W.cell? ⟨w.heap.size, 0, none⟩ = some (.int .i64 x.day) ∧ W.cell? ⟨w.heap.size, 1, none⟩ = some (.string x.client) ∧ W.cell? ⟨w.heap.size, 2, none⟩ = some (.int .i64 x.amount)) (first | exact ⟨(Below.refl _ _).drew, q0, q1, q2⟩ | (go_split_ands; exact ⟨bnext (by assumption) hb1 (Nat.le_refl _), cell_on hb1 (by assumption), cell_on hb1 (by assumption), cell_on hb1 (by assumption)⟩) | (go_split_ands; exact ⟨by assumption, by assumption, by assumption, by assumption⟩) | fail "keep") (first | (go_at_call 63; refine (HSz.out _).mono ?_; rintro e w2 ⟨rfl, rfl⟩; have hb1 := Below.refl 0 wq) | (go_at_call 62; refine (l01Dec_any _ _ (by omega) (by omega)).mono ?_; rintro e w2 ⟨rfl, hb1⟩) | fail "arm")
      rename_i hS
      have HF := Lib.hid (bnext HB.out hS.1 (Nat.le_refl _))
      go_wp2
      go_ret
      exact ⟨by rw [HO.out]; rfl, HF.out⟩
    · have HO := Lib.hid (textBk_owe h1 ha)
      obtain ⟨⟨d0, d1⟩, e1, ⟨a0, a1⟩, a2⟩ := okBk_iff.1 h1
      have hnm := (isName_len e1).2
      have hs1 : (asBytes (itoa x.day)).size ≤ 20 := by rw [asBytes_size]; exact itoa_len (by omega) (by omega)
      have hs2 : (asBytes (itoa (x.amount))).size ≤ 20 := by rw [asBytes_size]; exact itoa_len (by omega) (by omega)
      have n1 : ¬ (9223372036854775807 < (asBytes (itoa x.day)).size + 2) := by omega
      have n2 : ¬ (9223372036854775807 < (asBytes (itoa x.day)).size + 2 + x.client.size) := by omega
      have n3 : ¬ (9223372036854775807 < (asBytes (itoa x.day)).size + 2 + x.client.size + 6) := by omega
      have n4 : ¬ (9223372036854775807 < (asBytes (itoa x.day)).size + 2 + x.client.size + 6 + (asBytes (itoa (x.amount))).size) := by omega
      have han : decide (x.amount < 0) = false := decide_eq_false ha
      have hsz : ∀ W : World, Calls Tryd.prog 63 #[.int .i64 x.amount] W fun e w' => e = .returned (.int .i64 (x.amount)) ∧ W = w' := fun W => by
        have := l00Size_txt x.amount W a0 a1
        rw [if_neg ha] at this
        exact this
      have HSz := Lib.hid hsz
      clear hsz
      go_enter Tryd.func20, Tryd.ntmps20
      go_wp2_with fail
      obtain ⟨wq, hwq⟩ : ∃ y, w.alloc (.cells #[.int .i64 x.day, .string x.client, .int .i64 x.amount] 33) = y := ⟨_, rfl⟩
      have bq : Below w.heap.size w wq := by rw [← hwq]; exact (Below.refl _ _).alloc (Nat.le_refl _) _
      have yq : Blk wq w.heap.size 33 #[.int .i64 x.day, .string x.client, .int .i64 x.amount] := by rw [← hwq]; exact Blk.new _ _ _
      rw [hwq]
      clear hwq
      have q0 : wq.cell? ⟨w.heap.size, 0, none⟩ = some (.int .i64 x.day) := yq.cellAt 0 (by simp)
      have q1 : wq.cell? ⟨w.heap.size, 1, none⟩ = some (.string x.client) := yq.cellAt 1 (by simp)
      have q2 : wq.cell? ⟨w.heap.size, 2, none⟩ = some (.int .i64 x.amount) := yq.cellAt 2 (by simp)
      refine (l25One_any x w.heap.size 0 _ hx.2.1 q0 q1 q2).mono ?_
      rintro e w1 ⟨rfl, rfl⟩
      have HB := Lib.hid bq
      clear bq yq
      go_wp2_with fail
      go_region_held3 (fun W => Below wq.heap.size wq W ∧ W.cell? ⟨w.heap.size, 0, none⟩ = some (.int .i64 x.day) ∧ W.cell? ⟨w.heap.size, 1, none⟩ = some (.string x.client) ∧ W.cell? ⟨w.heap.size, 2, none⟩ = some (.int .i64 x.amount)) (first | exact ⟨(Below.refl _ _).drew, q0, q1, q2⟩ | (go_split_ands; exact ⟨bnext (by assumption) hb1 (Nat.le_refl _), cell_on hb1 (by assumption), cell_on hb1 (by assumption), cell_on hb1 (by assumption)⟩) | (go_split_ands; exact ⟨by assumption, by assumption, by assumption, by assumption⟩) | fail "keep") (first | (go_at_call 63; refine (HSz.out _).mono ?_; rintro e w2 ⟨rfl, rfl⟩; have hb1 := Below.refl 0 wq) | (go_at_call 62; refine (l01Dec_any _ _ (by omega) (by omega)).mono ?_; rintro e w2 ⟨rfl, hb1⟩) | fail "arm")
      rename_i hS
      have HF := Lib.hid (bnext HB.out hS.1 (Nat.le_refl _))
      go_wp2
      go_ret
      exact ⟨by rw [HO.out]; rfl, HF.out⟩
end Go.Proofs.YtafbehpgnmdglaaDoor
