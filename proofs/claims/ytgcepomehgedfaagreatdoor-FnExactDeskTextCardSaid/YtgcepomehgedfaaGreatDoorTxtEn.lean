/- Entries of the log: their words and stamps, both sides. -/
import Derived.Test.YtgcepomehgedfaaGreatDoorTab
import Derived.Test.YtgcepomehgedfaaGreatDoorEnA
import Derived.Deep.RegionHeld3
set_option linter.unusedVariables false
set_option linter.unusedSimpArgs false
namespace Go.Proofs.YtgcepomehgedfaaGreatDoor
open Go.RowKit Go.Lib

def wordsB (x : En) : ByteArray := asBytes (itoa x.day) ++ ⟨#[32]⟩ ++ x.what ++ ⟨#[32]⟩ ++ asBytes (itoa x.val)
theorem wordsB_size (x : En) : (wordsB x).size = (itoa x.day).length + 1 + x.what.size + 1 + (itoa x.val).length := by
  simp only [wordsB, ByteArray.size_append, asBytes_size]
  rfl
def stampS (s : Int) (l : List UInt8) : Int := l.foldl (fun s c => (37 * s + (c.toNat : Int)) % 65519) s
theorem stampS_bd : ∀ (l : List UInt8) (s : Int), 0 ≤ s ∧ s ≤ 65518 → 0 ≤ stampS s l ∧ stampS s l ≤ 65518
  | [], s, h => h
  | c :: r, s, h => stampS_bd r _ (show 0 ≤ (37 * s + (c.toNat : Int)) % 65519 ∧ (37 * s + (c.toNat : Int)) % 65519 ≤ 65518 by omega)
theorem stampS_snoc (s : Int) (l : List UInt8) (c : UInt8) : stampS s (l ++ [c]) = (37 * stampS s l + (c.toNat : Int)) % 65519 := by simp [stampS]
def stampW (b : Int) (s : ByteArray) : Int := stampS ((b + 29) % 65519) s.data.toList
theorem stampW_bd (b : Int) (s : ByteArray) : 0 ≤ stampW b s ∧ stampW b s ≤ 65518 := stampS_bd _ _ (by omega)
theorem ttake_snoc (s : ByteArray) (k : Nat) (h : k < s.size) : s.data.toList.take (k + 1) = s.data.toList.take k ++ [s[k]] := by
  rw [List.take_succ_eq_append_getElem (by simpa using h)]; rfl

set_option maxHeartbeats 4000000 in
set_option maxRecDepth 100000 in
theorem entryWords_any (x : En) (w : World) (hx : x.good) (hsm : x.small) (ht : TabP w) :
    Calls Tryz.prog 89 #[.agg #[.int .i64 x.day, .string x.what, .int .i64 x.val]] w fun e w' => e = .returned (.string (wordsB x)) ∧ Below w.heap.size w w' := by
  have HT := Lib.hid ht
  have hwz := hsm
  unfold En.small at hwz
  clear ht
  have hs1 : (asBytes (itoa x.day)).size ≤ 20 := by rw [asBytes_size]; exact itoa_len hx.1.1 hx.1.2
  have hs2 : (asBytes (itoa x.val)).size ≤ 20 := by rw [asBytes_size]; exact itoa_len hx.2.2.1 hx.2.2.2
  have n1 : ¬ (9223372036854775807 < (asBytes (itoa x.day)).size + 1) := by omega
  have n2 : ¬ (9223372036854775807 < (asBytes (itoa x.day)).size + 1 + x.what.size) := by omega
  have n3 : ¬ (9223372036854775807 < (asBytes (itoa x.day)).size + 1 + x.what.size + 1) := by omega
  have n4 : ¬ (9223372036854775807 < (asBytes (itoa x.day)).size + 1 + x.what.size + 1 + (asBytes (itoa x.val)).size) := by omega
  go_enter Tryz.func89, Tryz.ntmps89
  go_wp2_with fail
  obtain ⟨wq, hwq⟩ : ∃ y, w.alloc (.cells #[.int .i64 x.day, .string x.what, .int .i64 x.val] 111) = y := ⟨_, rfl⟩
  have bq : Below w.heap.size w wq := by rw [← hwq]; exact (Below.refl _ _).alloc (Nat.le_refl _) _
  have yq : Blk wq w.heap.size 111 #[.int .i64 x.day, .string x.what, .int .i64 x.val] := by rw [← hwq]; exact Blk.new _ _ _
  rw [hwq]
  clear hwq
  have HB := Lib.hid bq
  have HT1 := Lib.hid (tabUp HT.out bq)
  have q0 : wq.cell? ⟨w.heap.size, 0, none⟩ = some (.int .i64 x.day) := yq.cellAt 0 (by simp)
  have q1 : wq.cell? ⟨w.heap.size, 1, none⟩ = some (.string x.what) := yq.cellAt 1 (by simp)
  have q2 : wq.cell? ⟨w.heap.size, 2, none⟩ = some (.int .i64 x.val) := yq.cellAt 2 (by simp)
  clear bq yq
  go_wp2_with fail
  go_region_held3 (fun W => Below wq.heap.size wq W ∧ W.cell? ⟨w.heap.size, 0, none⟩ = some (.int .i64 x.day) ∧ W.cell? ⟨w.heap.size, 1, none⟩ = some (.string x.what) ∧ W.cell? ⟨w.heap.size, 2, none⟩ = some (.int .i64 x.val)) (first | exact ⟨(Below.refl _ _).drew, q0, q1, q2⟩ | (go_split_ands; exact ⟨bnext (by assumption) hb1 (Nat.le_refl _), cell_on hb1 (by assumption), cell_on hb1 (by assumption), cell_on hb1 (by assumption)⟩) | fail "keep") (first | (go_at_call 18; go_split_ands; refine (decimal_any _ _ (by first | exact hx.1.1 | exact hx.2.2.1) (by first | exact hx.1.2 | exact hx.2.2.2) (tabUp HT1.out (by assumption))).mono ?_; rintro e w2 ⟨rfl, hb1⟩) | fail "arm")
  rename_i hS
  have HF := Lib.hid (bnext HB.out hS.1 (Nat.le_refl _))
  go_wp2
  go_ret
  exact ⟨rfl, HF.out⟩

set_option maxHeartbeats 4000000 in
set_option maxRecDepth 100000 in
theorem l27Words_any (x : En) (b : Nat) (w : World) (hx : x.good) (hsm : x.small) (q0 : w.cell? ⟨b, 0, none⟩ = some (.int .i64 x.day)) (q1 : w.cell? ⟨b, 1, none⟩ = some (.string x.what)) (q2 : w.cell? ⟨b, 2, none⟩ = some (.int .i64 x.val)) :
    Calls Tryz.prog 69 #[.pointer (some ⟨b, 0, none⟩)] w fun e w' => e = .returned (.string (wordsB x)) ∧ Below w.heap.size w w' := by
  have hwz := hsm
  unfold En.small at hwz
  have hs1 : (asBytes (itoa x.day)).size ≤ 20 := by rw [asBytes_size]; exact itoa_len hx.1.1 hx.1.2
  have hs2 : (asBytes (itoa x.val)).size ≤ 20 := by rw [asBytes_size]; exact itoa_len hx.2.2.1 hx.2.2.2
  have n1 : ¬ (9223372036854775807 < (asBytes (itoa x.day)).size + 1) := by omega
  have n2 : ¬ (9223372036854775807 < (asBytes (itoa x.day)).size + 1 + x.what.size) := by omega
  have n3 : ¬ (9223372036854775807 < (asBytes (itoa x.day)).size + 1 + x.what.size + 1) := by omega
  have n4 : ¬ (9223372036854775807 < (asBytes (itoa x.day)).size + 1 + x.what.size + 1 + (asBytes (itoa x.val)).size) := by omega
  go_enter Tryz.func69, Tryz.ntmps69
  go_wp2_with fail
  go_region_held3 (fun W => Below w.heap.size w W ∧ W.cell? ⟨b, 0, none⟩ = some (.int .i64 x.day) ∧ W.cell? ⟨b, 1, none⟩ = some (.string x.what) ∧ W.cell? ⟨b, 2, none⟩ = some (.int .i64 x.val)) (first | exact ⟨(Below.refl _ _).drew, q0, q1, q2⟩ | (go_split_ands; exact ⟨bnext (by assumption) hb1 (Nat.le_refl _), cell_on hb1 (by assumption), cell_on hb1 (by assumption), cell_on hb1 (by assumption)⟩) | fail "keep") (first | (go_at_call 27; refine (l01Dec_any _ _ (by first | exact hx.1.1 | exact hx.2.2.1) (by first | exact hx.1.2 | exact hx.2.2.2)).mono ?_; rintro e w2 ⟨rfl, hb1⟩) | fail "arm")
  rename_i hS
  have HF := Lib.hid hS.1
  go_wp2
  go_ret
  exact ⟨rfl, HF.out⟩

set_option maxHeartbeats 2000000 in
set_option maxRecDepth 100000 in
theorem l27Stamp_any (b : Int) (s : ByteArray) (w : World) (hb0 : 0 ≤ b) (hb1 : b ≤ 65518) (hs : s.size ≤ 9223372036854775807) :
    Calls Tryz.prog 68 #[.int .i64 b, .string s] w fun e w' => e = .returned (.int .i64 (stampW b s)) ∧ w = w' := by
  go_enter Tryz.func68, Tryz.ntmps68
  go_wp2
  go_loop [5, 6] (fun t i => ∃ k : Nat, k ≤ s.size ∧ i = .int .i64 k ∧ t = .int .i64 (stampS ((b + 29) % 65519) (s.data.toList.take k))) (fun t i => s.size - (RowKit.intOf i).toNat)
  case atStart => exact ⟨0, Nat.zero_le _, rfl, rfl⟩
  case round =>
    obtain ⟨k, hk, rfl, rfl⟩ := hrel
    have hbd := stampS_bd (s.data.toList.take k) ((b + 29) % 65519) (by omega)
    by_cases hlt : k < s.size
    · have hst := Lib.hid (show stampS ((b + 29) % 65519) (s.data.toList.take (k + 1)) = (37 * stampS ((b + 29) % 65519) (s.data.toList.take k) + (s[k].toNat : Int)) % 65519 by rw [ttake_snoc s k hlt, stampS_snoc])
      obtain ⟨v, hv⟩ : ∃ v, stampS ((b + 29) % 65519) (s.data.toList.take k) = v := ⟨_, rfl⟩
      rw [hv] at hbd hst ⊢
      clear hv
      have hc : (s[k].toNat : Int) ≤ 255 := by have := s[k].toNat_lt; omega
      obtain ⟨h0, h1⟩ := hbd
      go_wp2
      go_round
      case rel => exact ⟨k + 1, by omega, by go_num, by rw [hst.out]⟩
      case measure => simp [RowKit.intOf]; omega
    · obtain rfl : k = s.size := by omega
      have HO := Lib.hid (show stampS ((b + 29) % 65519) (s.data.toList.take s.size) = stampW b s by rw [List.take_of_length_le (by rw [Array.length_toList]; exact Nat.le_refl _)]; rfl)
      go_wp2
      go_ret
      exact ⟨ret_int HO.out, rfl⟩

set_option maxHeartbeats 4000000 in
set_option maxRecDepth 100000 in
theorem stampOf_any (b : Int) (x : En) (w : World) (hx : x.good) (hsm : x.small) (hb0 : 0 ≤ b) (hb1 : b ≤ 65518) (ht : TabP w) :
    Calls Tryz.prog 75 #[.int .i64 b, .agg #[.int .i64 x.day, .string x.what, .int .i64 x.val]] w fun e w' => e = .returned (.int .i64 (stampW b (wordsB x))) ∧ Below w.heap.size w w' := by
  have HT := Lib.hid ht
  have hsz : (wordsB x).size ≤ 1048700 := by
    have h1 := itoa_len hx.1.1 hx.1.2
    have h2 := itoa_len hx.2.2.1 hx.2.2.2
    unfold En.small at hsm
    rw [wordsB_size]
    omega
  clear ht
  go_enter Tryz.func75, Tryz.ntmps75
  go_wp2_with fail
  obtain ⟨wq, hwq⟩ : ∃ y, w.alloc (.cells #[.int .i64 x.day, .string x.what, .int .i64 x.val] 111) = y := ⟨_, rfl⟩
  have bq : Below w.heap.size w wq := by rw [← hwq]; exact (Below.refl _ _).alloc (Nat.le_refl _) _
  have yq : Blk wq w.heap.size 111 #[.int .i64 x.day, .string x.what, .int .i64 x.val] := by rw [← hwq]; exact Blk.new _ _ _
  rw [hwq]
  clear hwq
  have HB := Lib.hid bq
  have HT1 := Lib.hid (tabUp HT.out bq)
  have q0 : wq.cell? ⟨w.heap.size, 0, none⟩ = some (.int .i64 x.day) := yq.cellAt 0 (by simp)
  have q1 : wq.cell? ⟨w.heap.size, 1, none⟩ = some (.string x.what) := yq.cellAt 1 (by simp)
  have q2 : wq.cell? ⟨w.heap.size, 2, none⟩ = some (.int .i64 x.val) := yq.cellAt 2 (by simp)
  clear bq yq
  go_wp2_with fail
  refine (entryWords_any x _ hx hsm HT1.out).mono ?_
  rintro e w1 ⟨rfl, b1⟩
  have HF := Lib.hid (bnext HB.out b1 (Nat.le_refl _))
  clear b1 q0 q1 q2
  obtain ⟨s, hs⟩ : ∃ s, wordsB x = s := ⟨_, rfl⟩
  rw [hs] at hsz ⊢
  have HW := Lib.hid hs
  clear hs
  go_wp2
  go_loop [5, 7, 15] (fun t _ i => ∃ k : Nat, k ≤ s.size ∧ i = .int .i64 k ∧ t = .int .i64 (stampS ((b + 29) % 65519) (s.data.toList.take k))) (fun _ _ i => s.size - (RowKit.intOf i).toNat)
  case atStart => exact ⟨0, Nat.zero_le _, rfl, rfl⟩
  case round =>
    obtain ⟨k, hk, rfl, rfl⟩ := hrel
    have hbd := stampS_bd (s.data.toList.take k) ((b + 29) % 65519) (by omega)
    by_cases hlt : k < s.size
    · have hst := Lib.hid (show stampS ((b + 29) % 65519) (s.data.toList.take (k + 1)) = (37 * stampS ((b + 29) % 65519) (s.data.toList.take k) + (s[k].toNat : Int)) % 65519 by rw [ttake_snoc s k hlt, stampS_snoc])
      obtain ⟨v, hv⟩ : ∃ v, stampS ((b + 29) % 65519) (s.data.toList.take k) = v := ⟨_, rfl⟩
      rw [hv] at hbd hst ⊢
      clear hv
      have hc : (s[k].toNat : Int) ≤ 255 := by have := s[k].toNat_lt; omega
      obtain ⟨h0, h1⟩ := hbd
      go_wp2
      go_round
      case rel => exact ⟨k + 1, by omega, by go_num, by rw [hst.out]⟩
      case measure => simp [RowKit.intOf]; omega
    · obtain rfl : k = s.size := by omega
      have HO := Lib.hid (show stampS ((b + 29) % 65519) (s.data.toList.take s.size) = stampW b s by rw [List.take_of_length_le (by rw [Array.length_toList]; exact Nat.le_refl _)]; rfl)
      go_wp2
      go_ret
      exact ⟨by rw [HW.out]; exact ret_int HO.out, HF.out⟩

def stampF (b : Int) (x : En) : Int × Int := if okEn x = true then (if inR b 0 65518 = true then (stampW b (wordsB x), 0) else (0, 2)) else (0, 1)
theorem stampF_bad {b : Int} {x : En} (h : okEn x = false) : stampF b x = (0, 1) := by simp [stampF, h]
theorem stampF_range {b : Int} {x : En} (h : okEn x = true) (h2 : inR b 0 65518 = false) : stampF b x = (0, 2) := by simp [stampF, h, h2]
theorem stampF_ok {b : Int} {x : En} (h : okEn x = true) (h2 : inR b 0 65518 = true) : stampF b x = (stampW b (wordsB x), 0) := by simp [stampF, h, h2]

end Go.Proofs.YtgcepomehgedfaaGreatDoor
