/- All tubes tested; the net. Clients as texts, both sides. Entries of the log: their words and stamps, both sides. The net tested by the reference. slices.Repeat at one number. Times and ways tested by the reference. -/
import Derived.Test.YtjalgpioklcbfaaGreatDoorMgConsoleAD
import Derived.Deep.QuietTactic
import Derived.Test.YtjalgpioklcbfaaGreatDoorMgConsoleAC
import Derived.Deep.RegionHeld3
import Derived.BigQuiet
import Derived.Test.YtjalgpioklcbfaaGreatDoorMgConsoleAB
import Derived.Deep.DeepCutAuto
import Derived.Orders
set_option linter.unusedVariables false
set_option linter.unusedSimpArgs false
namespace Go.Proofs.YtjalgpioklcbfaaGreatDoor
open Go.RowKit

theorem indexFuncTb_any (A : Option Addr) (n c B : Nat) (l : List Tb) (s : Int) (P : Option Addr) (m d g : Nat) (w : World) (h : Reads w B 3 A n (tbs l)) (hB : B ≤ w.heap.size) (hn : n ≤ 1048576) (h0 : 2 ≤ s) (h1 : s ≤ 10) (k0 : w.cell? ⟨g, 0, none⟩ = some (.int .i64 s)) (k1 : w.cell? ⟨g, 1, none⟩ = some (.slice P m d)) :
    Calls Tryz.prog 192 #[.slice A n c, .func (.func 131) #[] #[.pointer (some ⟨g, 0, none⟩)]] w
      fun e w' => e = .returned (.int .i64 (idxI (fun x => !okTb s x) l)) ∧ Below w.heap.size w w' := by
  have hl := Lib.hid (tbs_len h)
  go_enter Tryz.func192, Tryz.ntmps192
  go_wp2
  go_loopw [8] (fun i wr => ∃ k : Nat, k ≤ n ∧ i = .int .i64 k ∧ AllTo (okTb s) l k ∧ Below w.heap.size w wr) (fun i _ => n - (RowKit.intOf i).toNat)
  case atStart => exact ⟨0, Nat.zero_le _, rfl, AllTo.zero _ _, Below.refl _ _⟩
  case round =>
    obtain ⟨k, hk, rfl, hall, hbel⟩ := hrel
    have HA := Lib.hid hall
    have HB := Lib.hid hbel
    have z0 := cell_on hbel k0
    have z1 := cell_on hbel k1
    clear hall
    by_cases hlt : k < n
    · obtain ⟨x, b, off, he, rfl, hb, c0, c1, c2⟩ := tb_at (h.on hB hbel) hlt
      have HE := Lib.hid he
      clear he hbel h
      go_wp2_with fail
      refine (validNet1_any s x P m d g _ h0 h1 z0 z1).mono ?_
      rintro e w1 ⟨rfl, b1⟩
      have HF := Lib.hid (bnext HB.out b1 (Nat.le_refl _))
      clear b1 c0 c1 c2 z0 z1
      rcases ho : okTb s x with _ | _
      · have HO := Lib.hid (show idxI (fun x => !okTb s x) l = k from idxI_found HE.out (by simp [ho]) (HA.out.imp fun x hx => by simp [hx]))
        go_wp2
        go_ret
        exact ⟨ret_int HO.out.symm, HF.out⟩
      · have HO := Lib.hid ho
        go_wp2
        go_roundw
        case rel => exact ⟨k + 1, by omega, by go_num, HA.out.step HE.out HO.out, HF.out⟩
        case measure => simp [RowKit.intOf]; omega
    · obtain rfl : k = n := by omega
      have HO := Lib.hid (show idxI (fun x => !okTb s x) l = -1 from idxI_none (HA.out.imp fun x hx => by simp [hx]) hl.out)
      go_wp2
      go_ret
      exact ⟨ret_int HO.out.symm, HB.out⟩
theorem containsFuncTb_any (A : Option Addr) (n c B : Nat) (l : List Tb) (s : Int) (P : Option Addr) (m d g : Nat) (w : World) (h : Reads w B 3 A n (tbs l)) (hB : B ≤ w.heap.size) (hn : n ≤ 1048576) (h0 : 2 ≤ s) (h1 : s ≤ 10) (k0 : w.cell? ⟨g, 0, none⟩ = some (.int .i64 s)) (k1 : w.cell? ⟨g, 1, none⟩ = some (.slice P m d)) :
    Calls Tryz.prog 130 #[.slice A n c, .func (.func 131) #[] #[.pointer (some ⟨g, 0, none⟩)]] w
      fun e w' => e = .returned (.bool (!l.all (okTb s))) ∧ Below w.heap.size w w' := by
  have HO := Lib.hid (show decide (0 ≤ idxI (fun x => !okTb s x) l) = !l.all (okTb s) from by rw [idxI_nonneg]; simp [List.any_eq_not_all_not])
  go_enter Tryz.func130, Tryz.ntmps130
  go_wp2_with fail
  refine (indexFuncTb_any A n c B l s P m d g w h hB hn h0 h1 k0 k1).mono ?_
  rintro e w1 ⟨rfl, b1⟩
  go_wp2
  go_ret
  exact ⟨ret_bool HO.out, b1⟩

def okNt (x : Nt) : Bool := inR x.sta 2 10 && (decide (x.tubes.length ≤ 24) && x.tubes.all (okTb x.sta))
theorem implValidNet_any (A : Option Addr) (n c B : Nat) (x : Nt) (w : World) (h : Reads w B 3 A n (tbs x.tubes)) (hB : B ≤ w.heap.size) (hn : n ≤ 1048576) :
    Calls Tryz.prog 70 #[.agg #[.int .i64 x.sta, .slice A n c]] w fun e w' => e = .returned (.bool (okNt x)) ∧ Below w.heap.size w w' := by
  have hl := tbs_len h
  obtain ⟨W, hW, k0, hb⟩ : ∃ W, W = w.alloc (.cells #[.int .i64 x.sta, .slice A n c] 28) ∧ Blk W w.heap.size 28 #[.int .i64 x.sta, .slice A n c] ∧ Below w.heap.size w W := ⟨_, rfl, Blk.new _ _ _, (Below.refl _ _).alloc (Nat.le_refl _) _⟩
  have HW := Lib.hid hW
  have HB := Lib.hid hb
  have HR := Lib.hid (h.on hB hb)
  have c0 := k0.cellAt 0 (by simp)
  have c1 := k0.cellAt 1 (by simp)
  simp only [List.getElem_toArray, List.getElem_cons_zero, List.getElem_cons_succ] at c0 c1
  have HL := Lib.hid hl
  clear hW hb k0 h hl
  go_enter Tryz.func70, Tryz.ntmps70
  go_upto_region 1 with fail
  rw [← HW.out]
  go_wp2_with fail
  refine (within_any _ _ _ _).mono ?_
  rintro e w1 ⟨rfl, rfl⟩
  rcases e1 : inR x.sta 2 10 with _ | _
  · have HO := Lib.hid (show okNt x = false by simp [okNt, e1])
    go_wp2
    go_ret
    exact ⟨ret_bool HO.out.symm, HB.out⟩
  obtain ⟨h0, h1⟩ := inR_true.1 e1
  by_cases h24 : n ≤ 24
  · have HO := Lib.hid (show okNt x = x.tubes.all (okTb x.sta) by simp [okNt, e1, HL.out, h24])
    go_wp2_with fail
    refine (containsFuncTb_any A n c B x.tubes x.sta A n c w.heap.size W HR.out (Nat.le_trans hB HB.out.size) hn h0 h1 c0 c1).mono ?_
    rintro e w2 ⟨rfl, b2⟩
    go_wp2
    go_ret
    exact ⟨ret_bool (by rw [HO.out]; try simp), bnext HB.out b2 (Nat.le_refl _)⟩
  · have HO := Lib.hid (show okNt x = false by simp [okNt, e1, HL.out, h24])
    go_wp2
    go_ret
    exact ⟨ret_bool HO.out.symm, HB.out⟩
end Go.Proofs.YtjalgpioklcbfaaGreatDoor
namespace Go.Proofs.YtjalgpioklcbfaaGreatDoor
open Go.RowKit Go.Lib

end Go.Proofs.YtjalgpioklcbfaaGreatDoor
namespace Go.Proofs.YtjalgpioklcbfaaGreatDoor
open Go.RowKit Go.Lib

def wordsB (x : En) : ByteArray := asBytes (itoa x.day) ++ ⟨#[32]⟩ ++ x.what ++ ⟨#[32]⟩ ++ asBytes (itoa x.val)
theorem wordsB_size (x : En) : (wordsB x).size = (itoa x.day).length + 1 + x.what.size + 1 + (itoa x.val).length := by
  simp only [wordsB, ByteArray.size_append, asBytes_size]
  rfl
def stampS (s : Int) (l : List UInt8) : Int := l.foldl (fun s c => (37 * s + (c.toNat : Int)) % 65519) s
theorem stampS_bd : ∀ (l : List UInt8) (s : Int), 0 ≤ s ∧ s ≤ 65518 → 0 ≤ stampS s l ∧ stampS s l ≤ 65518
  | [], s, h => h
  | c :: r, s, h => stampS_bd r _ (show 0 ≤ (37 * s + (c.toNat : Int)) % 65519 ∧ (37 * s + (c.toNat : Int)) % 65519 ≤ 65518 by omega)
theorem stampS_snoc (s : Int) (l : List UInt8) (c : UInt8) : stampS s (l ++ [c]) = (37 * stampS s l + (c.toNat : Int)) % 65519 := by simp [stampS]
def stampW (b : Int) (s : ByteArray) : Int := stampS ((b + 29) % 65519) s.data.toList
theorem stampW_bd (b : Int) (s : ByteArray) : 0 ≤ stampW b s ∧ stampW b s ≤ 65518 := stampS_bd _ _ (by omega)
theorem ttake_snoc (s : ByteArray) (k : Nat) (h : k < s.size) : s.data.toList.take (k + 1) = s.data.toList.take k ++ [s[k]] := by
  rw [List.take_succ_eq_append_getElem (by simpa using h)]; rfl

set_option maxHeartbeats 4000000 in
set_option maxRecDepth 100000 in
theorem entryWords_any (x : En) (w : World) (hx : x.good) (hsm : x.small) (ht : TabP w) :
    Calls Tryz.prog 95 #[.agg #[.int .i64 x.day, .string x.what, .int .i64 x.val]] w fun e w' => e = .returned (.string (wordsB x)) ∧ Below w.heap.size w w' := by
  have HT := Lib.hid ht
  have hwz := hsm
  unfold En.small at hwz
  clear ht
  have hs1 : (asBytes (itoa x.day)).size ≤ 20 := by rw [asBytes_size]; exact itoa_len hx.1.1 hx.1.2
  have hs2 : (asBytes (itoa x.val)).size ≤ 20 := by rw [asBytes_size]; exact itoa_len hx.2.2.1 hx.2.2.2
  have n1 : ¬ (9223372036854775807 < (asBytes (itoa x.day)).size + 1) := by omega
  have n2 : ¬ (9223372036854775807 < (asBytes (itoa x.day)).size + 1 + x.what.size) := by omega
  have n3 : ¬ (9223372036854775807 < (asBytes (itoa x.day)).size + 1 + x.what.size + 1) := by omega
  have n4 : ¬ (9223372036854775807 < (asBytes (itoa x.day)).size + 1 + x.what.size + 1 + (asBytes (itoa x.val)).size) := by omega
  go_enter Tryz.func95, Tryz.ntmps95
  go_wp2_with fail
  obtain ⟨wq, hwq⟩ : ∃ y, w.alloc (.cells #[.int .i64 x.day, .string x.what, .int .i64 x.val] 145) = y := ⟨_, rfl⟩
  have bq : Below w.heap.size w wq := by rw [← hwq]; exact (Below.refl _ _).alloc (Nat.le_refl _) _
  have yq : Blk wq w.heap.size 145 #[.int .i64 x.day, .string x.what, .int .i64 x.val] := by rw [← hwq]; exact Blk.new _ _ _
  rw [hwq]
  clear hwq
  have HB := Lib.hid bq
  have HT1 := Lib.hid (tabUp HT.out bq)
  have q0 : wq.cell? ⟨w.heap.size, 0, none⟩ = some (.int .i64 x.day) := yq.cellAt 0 (by simp)
  have q1 : wq.cell? ⟨w.heap.size, 1, none⟩ = some (.string x.what) := yq.cellAt 1 (by simp)
  have q2 : wq.cell? ⟨w.heap.size, 2, none⟩ = some (.int .i64 x.val) := yq.cellAt 2 (by simp)
  clear bq yq
  go_wp2_with fail
  go_region_held3 (fun W => Below wq.heap.size wq W ∧ W.cell? ⟨w.heap.size, 0, none⟩ = some (.int .i64 x.day) ∧ W.cell? ⟨w.heap.size, 1, none⟩ = some (.string x.what) ∧ W.cell? ⟨w.heap.size, 2, none⟩ = some (.int .i64 x.val)) (first | exact ⟨(Below.refl _ _).drew, q0, q1, q2⟩ | (go_split_ands; exact ⟨bnext (by assumption) hb1 (Nat.le_refl _), cell_on hb1 (by assumption), cell_on hb1 (by assumption), cell_on hb1 (by assumption)⟩) | fail "keep") (first | (go_at_call 38; go_split_ands; refine (decimal_any _ _ (by first | exact hx.1.1 | exact hx.2.2.1) (by first | exact hx.1.2 | exact hx.2.2.2) (tabUp HT1.out (by assumption))).mono ?_; rintro e w2 ⟨rfl, hb1⟩) | fail "arm")
  rename_i hS
  have HF := Lib.hid (bnext HB.out hS.1 (Nat.le_refl _))
  go_wp2
  go_ret
  exact ⟨rfl, HF.out⟩

set_option maxHeartbeats 4000000 in
set_option maxRecDepth 100000 in
theorem l27Words_any (x : En) (b : Nat) (w : World) (hx : x.good) (hsm : x.small) (q0 : w.cell? ⟨b, 0, none⟩ = some (.int .i64 x.day)) (q1 : w.cell? ⟨b, 1, none⟩ = some (.string x.what)) (q2 : w.cell? ⟨b, 2, none⟩ = some (.int .i64 x.val)) :
    Calls Tryz.prog 176 #[.pointer (some ⟨b, 0, none⟩)] w fun e w' => e = .returned (.string (wordsB x)) ∧ Below w.heap.size w w' := by
  have hwz := hsm
  unfold En.small at hwz
  have hs1 : (asBytes (itoa x.day)).size ≤ 20 := by rw [asBytes_size]; exact itoa_len hx.1.1 hx.1.2
  have hs2 : (asBytes (itoa x.val)).size ≤ 20 := by rw [asBytes_size]; exact itoa_len hx.2.2.1 hx.2.2.2
  have n1 : ¬ (9223372036854775807 < (asBytes (itoa x.day)).size + 1) := by omega
  have n2 : ¬ (9223372036854775807 < (asBytes (itoa x.day)).size + 1 + x.what.size) := by omega
  have n3 : ¬ (9223372036854775807 < (asBytes (itoa x.day)).size + 1 + x.what.size + 1) := by omega
  have n4 : ¬ (9223372036854775807 < (asBytes (itoa x.day)).size + 1 + x.what.size + 1 + (asBytes (itoa x.val)).size) := by omega
  go_enter Tryz.func176, Tryz.ntmps176
  go_wp2_with fail
  go_region_held3 (fun W => Below w.heap.size w W ∧ W.cell? ⟨b, 0, none⟩ = some (.int .i64 x.day) ∧ W.cell? ⟨b, 1, none⟩ = some (.string x.what) ∧ W.cell? ⟨b, 2, none⟩ = some (.int .i64 x.val)) (first | exact ⟨(Below.refl _ _).drew, q0, q1, q2⟩ | (go_split_ands; exact ⟨bnext (by assumption) hb1 (Nat.le_refl _), cell_on hb1 (by assumption), cell_on hb1 (by assumption), cell_on hb1 (by assumption)⟩) | fail "keep") (first | (go_at_call 173; refine (l01Dec_any _ _ (by first | exact hx.1.1 | exact hx.2.2.1) (by first | exact hx.1.2 | exact hx.2.2.2)).mono ?_; rintro e w2 ⟨rfl, hb1⟩) | fail "arm")
  rename_i hS
  have HF := Lib.hid hS.1
  go_wp2
  go_ret
  exact ⟨rfl, HF.out⟩

set_option maxHeartbeats 2000000 in
set_option maxRecDepth 100000 in
theorem l27Stamp_any (b : Int) (s : ByteArray) (w : World) (hb0 : 0 ≤ b) (hb1 : b ≤ 65518) (hs : s.size ≤ 9223372036854775807) :
    Calls Tryz.prog 233 #[.int .i64 b, .string s] w fun e w' => e = .returned (.int .i64 (stampW b s)) ∧ w = w' := by
  go_enter Tryz.func233, Tryz.ntmps233
  go_wp2
  go_loop [5, 6] (fun t i => ∃ k : Nat, k ≤ s.size ∧ i = .int .i64 k ∧ t = .int .i64 (stampS ((b + 29) % 65519) (s.data.toList.take k))) (fun t i => s.size - (RowKit.intOf i).toNat)
  case atStart => exact ⟨0, Nat.zero_le _, rfl, rfl⟩
  case round =>
    obtain ⟨k, hk, rfl, rfl⟩ := hrel
    have hbd := stampS_bd (s.data.toList.take k) ((b + 29) % 65519) (by omega)
    by_cases hlt : k < s.size
    · have hst := Lib.hid (show stampS ((b + 29) % 65519) (s.data.toList.take (k + 1)) = (37 * stampS ((b + 29) % 65519) (s.data.toList.take k) + (s[k].toNat : Int)) % 65519 by rw [ttake_snoc s k hlt, stampS_snoc])
      obtain ⟨v, hv⟩ : ∃ v, stampS ((b + 29) % 65519) (s.data.toList.take k) = v := ⟨_, rfl⟩
      rw [hv] at hbd hst ⊢
      clear hv
      have hc : (s[k].toNat : Int) ≤ 255 := by have := s[k].toNat_lt; omega
      obtain ⟨h0, h1⟩ := hbd
      go_wp2
      go_round
      case rel => exact ⟨k + 1, by omega, by go_num, by rw [hst.out]⟩
      case measure => simp [RowKit.intOf]; omega
    · obtain rfl : k = s.size := by omega
      have HO := Lib.hid (show stampS ((b + 29) % 65519) (s.data.toList.take s.size) = stampW b s by rw [List.take_of_length_le (by rw [Array.length_toList]; exact Nat.le_refl _)]; rfl)
      go_wp2
      go_ret
      exact ⟨ret_int HO.out, rfl⟩

set_option maxHeartbeats 4000000 in
set_option maxRecDepth 100000 in
theorem stampOf_any (b : Int) (x : En) (w : World) (hx : x.good) (hsm : x.small) (hb0 : 0 ≤ b) (hb1 : b ≤ 65518) (ht : TabP w) :
    Calls Tryz.prog 162 #[.int .i64 b, .agg #[.int .i64 x.day, .string x.what, .int .i64 x.val]] w fun e w' => e = .returned (.int .i64 (stampW b (wordsB x))) ∧ Below w.heap.size w w' := by
  have HT := Lib.hid ht
  have hsz : (wordsB x).size ≤ 1048700 := by
    have h1 := itoa_len hx.1.1 hx.1.2
    have h2 := itoa_len hx.2.2.1 hx.2.2.2
    unfold En.small at hsm
    rw [wordsB_size]
    omega
  clear ht
  go_enter Tryz.func162, Tryz.ntmps162
  go_wp2_with fail
  obtain ⟨wq, hwq⟩ : ∃ y, w.alloc (.cells #[.int .i64 x.day, .string x.what, .int .i64 x.val] 145) = y := ⟨_, rfl⟩
  have bq : Below w.heap.size w wq := by rw [← hwq]; exact (Below.refl _ _).alloc (Nat.le_refl _) _
  have yq : Blk wq w.heap.size 145 #[.int .i64 x.day, .string x.what, .int .i64 x.val] := by rw [← hwq]; exact Blk.new _ _ _
  rw [hwq]
  clear hwq
  have HB := Lib.hid bq
  have HT1 := Lib.hid (tabUp HT.out bq)
  have q0 : wq.cell? ⟨w.heap.size, 0, none⟩ = some (.int .i64 x.day) := yq.cellAt 0 (by simp)
  have q1 : wq.cell? ⟨w.heap.size, 1, none⟩ = some (.string x.what) := yq.cellAt 1 (by simp)
  have q2 : wq.cell? ⟨w.heap.size, 2, none⟩ = some (.int .i64 x.val) := yq.cellAt 2 (by simp)
  clear bq yq
  go_wp2_with fail
  refine (entryWords_any x _ hx hsm HT1.out).mono ?_
  rintro e w1 ⟨rfl, b1⟩
  have HF := Lib.hid (bnext HB.out b1 (Nat.le_refl _))
  clear b1 q0 q1 q2
  obtain ⟨s, hs⟩ : ∃ s, wordsB x = s := ⟨_, rfl⟩
  rw [hs] at hsz ⊢
  have HW := Lib.hid hs
  clear hs
  go_wp2
  go_loop [5, 7, 15] (fun t _ i => ∃ k : Nat, k ≤ s.size ∧ i = .int .i64 k ∧ t = .int .i64 (stampS ((b + 29) % 65519) (s.data.toList.take k))) (fun _ _ i => s.size - (RowKit.intOf i).toNat)
  case atStart => exact ⟨0, Nat.zero_le _, rfl, rfl⟩
  case round =>
    obtain ⟨k, hk, rfl, rfl⟩ := hrel
    have hbd := stampS_bd (s.data.toList.take k) ((b + 29) % 65519) (by omega)
    by_cases hlt : k < s.size
    · have hst := Lib.hid (show stampS ((b + 29) % 65519) (s.data.toList.take (k + 1)) = (37 * stampS ((b + 29) % 65519) (s.data.toList.take k) + (s[k].toNat : Int)) % 65519 by rw [ttake_snoc s k hlt, stampS_snoc])
      obtain ⟨v, hv⟩ : ∃ v, stampS ((b + 29) % 65519) (s.data.toList.take k) = v := ⟨_, rfl⟩
      rw [hv] at hbd hst ⊢
      clear hv
      have hc : (s[k].toNat : Int) ≤ 255 := by have := s[k].toNat_lt; omega
      obtain ⟨h0, h1⟩ := hbd
      go_wp2
      go_round
      case rel => exact ⟨k + 1, by omega, by go_num, by rw [hst.out]⟩
      case measure => simp [RowKit.intOf]; omega
    · obtain rfl : k = s.size := by omega
      have HO := Lib.hid (show stampS ((b + 29) % 65519) (s.data.toList.take s.size) = stampW b s by rw [List.take_of_length_le (by rw [Array.length_toList]; exact Nat.le_refl _)]; rfl)
      go_wp2
      go_ret
      exact ⟨by rw [HW.out]; exact ret_int HO.out, HF.out⟩

end Go.Proofs.YtjalgpioklcbfaaGreatDoor
namespace Go.Proofs.YtjalgpioklcbfaaGreatDoor
open Go.RowKit

set_option maxHeartbeats 4000000 in
theorem l02Ok_any (A : Option Addr) (n c B g : Nat) (x : Nt) (w : World) (h : Reads w B 3 A n (tbs x.tubes)) (hB : B ≤ w.heap.size) (hn : n ≤ 1048576) (k0 : w.cell? ⟨g, 0, none⟩ = some (.int .i64 x.sta)) (k1 : w.cell? ⟨g, 1, none⟩ = some (.slice A n c)) :
    Calls Tryz.prog 97 #[.pointer (some ⟨g, 0, none⟩)] w fun e w' => e = .returned (.bool (okNt x)) ∧ Below w.heap.size w w' := by
  have HL := Lib.hid (tbs_len h)
  rcases e1 : inR x.sta 2 10 with _ | _
  · have HO := Lib.hid (show okNt x = false by simp [okNt, e1])
    go_enter Tryz.func97, Tryz.ntmps97
    go_wp2_with fail
    refine (l00In_any _ _ _ _).mono ?_
    rintro e w1 ⟨rfl, rfl⟩
    rw [e1]
    go_wp2
    go_ret
    exact ⟨ret_bool HO.out.symm, Below.refl _ _⟩
  obtain ⟨h0, h1⟩ := inR_true.1 e1
  by_cases h24 : n ≤ 24
  · have HO := Lib.hid (show okNt x = x.tubes.all (okTb x.sta) by simp [okNt, e1, HL.out, h24])
    go_enter Tryz.func97, Tryz.ntmps97
    go_wp2_with fail
    refine (l00In_any _ _ _ _).mono ?_
    rintro e w1 ⟨rfl, rfl⟩
    rw [e1]
    go_wp2
    go_loopw [3] (fun i wr => ∃ k : Nat, k ≤ n ∧ i = .int .i64 k ∧ AllTo (okTb x.sta) x.tubes k ∧ Below w.heap.size w wr) (fun i _ => n - (RowKit.intOf i).toNat)
    case atStart => exact ⟨0, Nat.zero_le _, rfl, AllTo.zero _ _, Below.refl _ _⟩
    case round =>
      obtain ⟨k, hk, rfl, hall, hbel⟩ := hrel
      have HA := Lib.hid hall
      have HB := Lib.hid hbel
      have z0 := cell_on hbel k0
      have z1 := cell_on hbel k1
      clear hall
      by_cases hlt : k < n
      · obtain ⟨t, b, off, he, rfl, hb, c0, c1, c2⟩ := tb_at (h.on hB hbel) hlt
        have HE := Lib.hid he
        have hi0 : (0 : Int) ≤ k := by omega
        have hi1 : (k : Int) < n := by omega
        clear he hbel h k0 k1
        rcases ho : okTb x.sta t with _ | _
        · have HF := Lib.hid (show okNt x = false from HO.out.trans (all_bad HE.out ho))
          go_wp2_with fail
          go_region_held3 (fun W => Below wr.heap.size wr W ∧ W.cell? ⟨b, off + k * 3, none⟩ = some (.int .i64 t.from_) ∧ W.cell? ⟨b, off + k * 3 + 1, none⟩ = some (.int .i64 t.to_) ∧ W.cell? ⟨b, off + k * 3 + 2, none⟩ = some (.int .i64 t.len) ∧ W.cell? ⟨g, 0, none⟩ = some (.int .i64 x.sta) ∧ W.cell? ⟨g, 1, none⟩ = some (.slice (some ⟨b, off, none⟩) n c)) (first | exact ⟨(Below.refl _ _).drew, c0, c1, c2, z0, z1⟩ | (go_split_ands; exact ⟨bnext (by assumption) hb1 (Nat.le_refl _), cell_on hb1 (by assumption), cell_on hb1 (by assumption), cell_on hb1 (by assumption), cell_on hb1 (by assumption), cell_on hb1 (by assumption)⟩)) (first | (go_at_call 165; refine (l02Tube_any x.sta t _ h0 h1).mono ?_; rw [ho]; rintro e w1 ⟨rfl, hb1⟩))
          rename_i hS
          have HS := Lib.hid (bnext HB.out hS.1 (Nat.le_refl _))
          clear hS hb1 c0 c1 c2 z0 z1
          go_wp2
          go_ret
          exact ⟨ret_bool HF.out.symm, HS.out⟩
        · have HT := Lib.hid ho
          go_wp2_with fail
          go_region_held3 (fun W => Below wr.heap.size wr W ∧ W.cell? ⟨b, off + k * 3, none⟩ = some (.int .i64 t.from_) ∧ W.cell? ⟨b, off + k * 3 + 1, none⟩ = some (.int .i64 t.to_) ∧ W.cell? ⟨b, off + k * 3 + 2, none⟩ = some (.int .i64 t.len) ∧ W.cell? ⟨g, 0, none⟩ = some (.int .i64 x.sta) ∧ W.cell? ⟨g, 1, none⟩ = some (.slice (some ⟨b, off, none⟩) n c)) (first | exact ⟨(Below.refl _ _).drew, c0, c1, c2, z0, z1⟩ | (go_split_ands; exact ⟨bnext (by assumption) hb1 (Nat.le_refl _), cell_on hb1 (by assumption), cell_on hb1 (by assumption), cell_on hb1 (by assumption), cell_on hb1 (by assumption), cell_on hb1 (by assumption)⟩)) (first | (go_at_call 165; refine (l02Tube_any x.sta t _ h0 h1).mono ?_; rw [ho]; rintro e w1 ⟨rfl, hb1⟩))
          rename_i hS
          have HS := Lib.hid (bnext HB.out hS.1 (Nat.le_refl _))
          clear hS hb1 c0 c1 c2 z0 z1
          go_wp2
          go_roundw
          case rel => exact ⟨k + 1, by omega, by go_num, HA.out.step HE.out HT.out, HS.out⟩
          case measure => simp [RowKit.intOf]; omega
      · obtain rfl : k = n := by omega
        have HF := Lib.hid (show okNt x = true from HO.out.trans (HA.out.done HL.out))
        go_wp2
        go_ret
        exact ⟨ret_bool HF.out.symm, HB.out⟩
  · have HO := Lib.hid (show okNt x = false by simp [okNt, e1, HL.out, h24])
    go_enter Tryz.func97, Tryz.ntmps97
    go_wp2_with fail
    refine (l00In_any _ _ _ _).mono ?_
    rintro e w1 ⟨rfl, rfl⟩
    rw [e1]
    go_wp2
    go_ret
    exact ⟨ret_bool HO.out.symm, Below.refl _ _⟩
end Go.Proofs.YtjalgpioklcbfaaGreatDoor
namespace Go.Proofs.YtjalgpioklcbfaaGreatDoor
open Go.RowKit Go.Lib

theorem ints_one (l : List Int) : ∀ u ∈ ints l, u.oneCell' = true := by
  intro u hu
  simp only [ints, List.mem_map] at hu
  obtain ⟨x, _, rfl⟩ := hu
  rfl
/-- A row of n numbers, the first k of them v. -/
def rowV (v : Int) (n k : Nat) : List Value := ints (List.replicate k v ++ List.replicate (n - k) 0)
theorem rowV_len {v : Int} {n k : Nat} (h : k ≤ n) : (rowV v n k).length = n := by simp [rowV, ints_length]; omega
theorem rowV_get {v : Int} {n k j : Nat} (h : j < k) (hk : k ≤ n) : (rowV v n k)[j]? = some (.int .i64 v) := ints_get (by rw [List.getElem?_append_left (by simpa using h)]; exact List.getElem?_replicate_of_lt h)
theorem rowV_full (v : Int) (n : Nat) : rowV v n n = ints (List.replicate n v) := by simp [rowV]
theorem rowV_step {v : Int} {n k : Nat} (h : k ≤ n) {m : Nat} (hm : k + m ≤ n) : splice (rowV v n k) k (ints (List.replicate m v)) = rowV v n (k + m) := by
  have hc : ∀ (a b : List Int), ints (a ++ b) = ints a ++ ints b := fun a b => by simp [ints]
  have e1 : (rowV v n k).take k = ints (List.replicate k v) := by
    rw [rowV, hc, List.take_append_of_le_length (by simp [ints_length]), List.take_of_length_le (by simp [ints_length])]
  have e2 : (rowV v n k).drop (k + (ints (List.replicate m v)).length) = ints (List.replicate (n - (k + m)) 0) := by
    rw [rowV, hc, ints_length, List.length_replicate, List.drop_append, List.drop_of_length_le (by simp [ints_length]), List.nil_append, ints_length, List.length_replicate]
    rw [show k + m - k = m by omega]
    unfold ints
    rw [← List.map_drop, List.drop_replicate]
    congr 2
    omega
  unfold splice
  rw [e1, e2, rowV, ← hc, ← hc, ← List.append_assoc, List.replicate_append_replicate]
set_option maxHeartbeats 1000000 in
set_option maxRecDepth 100000 in
theorem repeatI_any (n b c : Nat) (v : Int) (w : World) (hn1 : 1 ≤ n) (hn : n ≤ 1000) (hc : w.cell? ⟨b, 0, none⟩ = some (.int .i64 v)) :
    Calls Tryz.prog 203 #[.slice (some ⟨b, 0, none⟩) 1 c, .int .i64 n] w fun e w' => e = .returned (.slice (some ⟨w.heap.size, 0, none⟩) n n) ∧ Blk w' w.heap.size 2 (ints (List.replicate n v)).toArray ∧ Below w.heap.size w w' := by
  have hmul := fun W => Tryz.bits_Mul 1 n (by decide) (by omega) W
  have hq1 : ((1 * n / 18446744073709551616 : Nat) : Int) = 0 := by omega
  have hq2 : ((1 * n % 18446744073709551616 : Nat) : Int) = n := by omega
  rw [hq1, hq2] at hmul
  have HM := Lib.hid hmul
  have hmk := Lib.hid (make_i64 n (by omega))
  clear hmul hq1 hq2
  have hni : (n : Int) ≤ 1000 := by omega
  have hn0 : (1 : Int) ≤ n := by omega
  have hg0 : decide ((n : Int) < 0) = false := decide_eq_false (by omega)
  go_enter Tryz.func203, Tryz.ntmps203
  go_wp2_with fail
  refine (HM.out w).mono ?_
  rintro e wq ⟨rfl, hww⟩
  rw [hww]
  clear hww
  have hmk := hmk.out w
  have hy := Blk.new w 2 (madeCells #[.int .i64 0] n)
  obtain ⟨w1, hw1⟩ : ∃ y, w.alloc (.cells (madeCells #[.int .i64 0] n) 2) = y := ⟨_, rfl⟩
  rw [hw1] at hmk hy
  have b1 : Below w.heap.size w w1 := by rw [← hw1]; exact (Below.refl _ _).alloc (Nat.le_refl _) _
  have hc1 := cell_on b1 hc
  have HY1 := Lib.hid (show Blk w1 w.heap.size 2 (rowV v n 0).toArray by
    have e : madeCells #[.int .i64 0] n = (rowV v n 0).toArray := by
      rw [made_zer]; simp [rowV, zer]
    rw [← e]; exact hy)
  have HB1 := Lib.hid b1
  clear hy hw1 b1 hc
  have hrow0 : rowV v n 0 = ints (List.replicate n 0) := by simp [rowV]
  go_wp2_with fail
  have hrun := run_copy_blk (P := Tryz.prog) w1 29 29 3 2 1 w.heap.size 0 n n ⟨b, 0, none⟩ 1 c (rowV v n 0).toArray 2 (ints (List.replicate 1 v)) Tryz.underlying29 (by kernel_rfl) HY1.out (by rw [ints_length, List.length_replicate, Nat.mul_one]; simp [Nat.min_def]; omega) (fun j u hu => by
    have hj := (List.getElem?_eq_some_iff.1 hu).1
    rw [ints_length, List.length_replicate] at hj
    obtain rfl : j = 0 := by omega
    simp [ints] at hu
    subst hu
    rw [add_plain]
    exact hc1) (by rw [ints_length, List.length_replicate]; simp [rowV_len (Nat.zero_le n)]; try omega) (ints_one _)
  rw [show Nat.min 1 n = 1 by simp [Nat.min_def]; omega] at hrun
  rw [hrun]
  clear hrun
  obtain ⟨w2, hw2⟩ : ∃ y, w1.setRow w.heap.size ((rowV v n 0).toArray.toList.take 0 ++ ints (List.replicate 1 v) ++ (rowV v n 0).toArray.toList.drop (0 + (ints (List.replicate 1 v)).length)).toArray = y := ⟨_, rfl⟩
  have HL2 := Lib.hid (show Laid w.heap.size 2 (rowV v n 1) w1 w2 by
    rw [← hw2]
    have := laid_setRow HY1.out (splice (rowV v n 0) 0 (ints (List.replicate 1 v)))
    have e := rowV_step (v := v) (n := n) (k := 0) (Nat.zero_le _) (m := 1) (by omega)
    rw [e] at this
    rw [show rowV v n 1 = rowV v n (0 + 1) from rfl, ← e] at this ⊢
    simpa [splice] using this)
  rw [hw2]
  clear hw2 hc1 hmk hrow0
  have hng : decide ((9223372036854775807 : Int) < n) = false := decide_eq_false (by omega)
  go_wp2
  go_loopw [8] (fun q wr => ∃ k : Nat, 1 ≤ k ∧ k ≤ n ∧ q = .int .i64 k ∧ Blk wr w.heap.size 2 (rowV v n k).toArray ∧ Below w.heap.size w wr) (fun q _ => n - (RowKit.intOf q).toNat)
  case atStart => exact ⟨1, Nat.le_refl _, hn1, rfl, HL2.out.blk, bonly HB1.out (HL2.out.only (Nat.le_refl _) (Nat.lt_succ_self _)) (Nat.le_refl _) (Nat.le_refl _)⟩
  case round =>
    obtain ⟨k, hk1, hkn, rfl, hy, hb⟩ := hrel
    have HY := Lib.hid hy
    have HB := Lib.hid hb
    clear hy hb
    by_cases hlt : k < n
    · have hk0 : (0 : Int) ≤ k := by omega
      have hkn' : (k : Int) < n := by omega
      have hkn2 : (k : Int) ≤ n := by omega
      have hne : ¬ (n = k) := by omega
      obtain ⟨q, hq⟩ : ∃ q, Nat.min k (n - k) = q := ⟨_, rfl⟩
      have HQ := Lib.hid hq
      have hq1 : q ≤ k := by rw [← hq]; exact Nat.min_le_left _ _
      have hq2 : q ≤ n - k := by rw [← hq]; exact Nat.min_le_right _ _
      have hq3 : 1 ≤ q := by rw [← hq]; exact Nat.le_min.2 ⟨hk1, by omega⟩
      have hkw : IntKind.i64.wrap ((k : Int) + (q : Int)) = (k : Int) + (q : Int) := by
        unfold IntKind.wrap; simp [IntKind.bits, IntKind.signed]; omega
      clear hq
      go_wp2_with fail
      refine wp_region_held_drew (S := (fun _ => True)) (by kernel_rfl) ?_ (fun hHeld => ?_)
      · trivial
      refine wpAnyH_take (i := 0) (v := ?_) rfl (by kernel_rfl) (by kernel_rfl) (by kernel_rfl) (fun _ _ _ h => h) (Or.inl ⟨by kernel_rfl, ?_⟩) (by assumption) ?_
      rotate_left 1
      · intro w hSw; (try dsimp only at hSw); go_simp; try with_reducible rfl
      try simp only [Act.put, List.getElem_toArray, List.getElem_cons_succ, List.getElem_cons_zero, List.setIfInBounds_toArray, List.set_cons_zero, List.set_cons_succ]
      refine wpAnyH_take (i := 1) (v := ?_) rfl (by kernel_rfl) (by kernel_rfl) (by kernel_rfl) (fun _ _ _ h => h) (Or.inl ⟨by kernel_rfl, ?_⟩) (by assumption) ?_
      rotate_left 1
      · intro w hSw; (try dsimp only at hSw); go_simp; try with_reducible rfl
      try simp only [Act.put, List.getElem_toArray, List.getElem_cons_succ, List.getElem_cons_zero, List.setIfInBounds_toArray, List.set_cons_zero, List.set_cons_succ]
      refine wpAnyH_take (i := 2) (v := ?_) rfl (by kernel_rfl) (by kernel_rfl) (by kernel_rfl) (fun _ _ _ h => h) (Or.inl ⟨by kernel_rfl, ?_⟩) (by assumption) ?_
      rotate_left 1
      · intro w hSw; (try dsimp only at hSw); go_simp; try with_reducible rfl
      try simp only [Act.put, List.getElem_toArray, List.getElem_cons_succ, List.getElem_cons_zero, List.setIfInBounds_toArray, List.set_cons_zero, List.set_cons_succ]
      refine wpAnyH_take (i := 3) (v := ?_) rfl (by kernel_rfl) (by kernel_rfl) (by kernel_rfl) (fun _ _ _ h => h) (Or.inl ⟨by kernel_rfl, ?_⟩) (by assumption) ?_
      rotate_left 1
      · intro w hSw; (try dsimp only at hSw); go_simp; try with_reducible rfl
      try simp only [Act.put, List.getElem_toArray, List.getElem_cons_succ, List.getElem_cons_zero, List.setIfInBounds_toArray, List.set_cons_zero, List.set_cons_succ]
      refine wpAnyH_take (i := 4) (v := ?_) rfl (by kernel_rfl) (by kernel_rfl) (by kernel_rfl) (fun _ _ _ h => h) (Or.inl ⟨by kernel_rfl, ?_⟩) (by assumption) ?_
      rotate_left 1
      · intro w hSw; (try dsimp only at hSw); go_simp; try with_reducible rfl
      try simp only [Act.put, List.getElem_toArray, List.getElem_cons_succ, List.getElem_cons_zero, List.setIfInBounds_toArray, List.set_cons_zero, List.set_cons_succ]
      refine wpAnyH_take (i := 5) (v := ?_) rfl (by kernel_rfl) (by kernel_rfl) (by kernel_rfl) (fun _ _ _ h => h) (Or.inl ⟨by kernel_rfl, ?_⟩) (by assumption) ?_
      rotate_left 1
      · intro w hSw; (try dsimp only at hSw); go_simp; try with_reducible rfl
      try simp only [Act.put, List.getElem_toArray, List.getElem_cons_succ, List.getElem_cons_zero, List.setIfInBounds_toArray, List.set_cons_zero, List.set_cons_succ]
      refine wpAnyH_take (i := 6) (v := ?_) rfl (by kernel_rfl) (by kernel_rfl) (by kernel_rfl) (fun _ _ _ h => h) (Or.inl ⟨by kernel_rfl, ?_⟩) (by assumption) ?_
      rotate_left 1
      · intro w hSw; (try dsimp only at hSw); go_simp; try with_reducible rfl
      try simp only [Act.put, List.getElem_toArray, List.getElem_cons_succ, List.getElem_cons_zero, List.setIfInBounds_toArray, List.set_cons_zero, List.set_cons_succ]
      refine wpAnyH_ready (rs := [7]) (by kernel_rfl) (by simp) ?_
      refine AllReadyH.cons rfl (fun K hK => ?_) AllReadyH.nil
      refine step_copyBlk rfl _ _ 29 29 rfl 2 1 Tryz.underlying29 (by kernel_rfl) w.heap.size k (n - k) (n - k) ⟨w.heap.size, 0, none⟩ k n rfl rfl k rfl (rowV v n k) 2 HY.out.drew (ints (List.replicate q v)) (by rw [ints_length, List.length_replicate, Nat.mul_one]; exact HQ.out.symm) (fun j u hu => ?_) (by rw [ints_length, List.length_replicate, rowV_len hkn]; omega) (ints_one _) ?_
      · have hj := (List.getElem?_eq_some_iff.1 hu).1
        rw [ints_length, List.length_replicate] at hj
        rw [add_plain, Nat.zero_add]
        refine (HY.out.cell j).trans ?_
        rw [List.getElem?_toArray, rowV_get (by omega) hkn]
        rw [ints_get (List.getElem?_replicate_of_lt hj)] at hu
        exact hu
      intro w3 hl2
      rw [HQ.out]
      refine hK.out _ _ ?_ (fun hNew => ?_)
      · trivial
      clear hK K hHeld
      have hHeld := hNew
      clear hNew
      try simp only [Act.put, List.getElem_toArray, List.getElem_cons_succ, List.getElem_cons_zero, List.setIfInBounds_toArray, List.set_cons_zero, List.set_cons_succ]
      refine wpAnyH_take (i := 8) (v := ?_) rfl (by kernel_rfl) (by kernel_rfl) (by kernel_rfl) (fun _ _ _ h => h) (Or.inl ⟨by kernel_rfl, ?_⟩) (by assumption) ?_
      rotate_left 1
      · intro w hSw; (try dsimp only at hSw); go_simp; try with_reducible rfl
      try simp only [Act.put, List.getElem_toArray, List.getElem_cons_succ, List.getElem_cons_zero, List.setIfInBounds_toArray, List.set_cons_zero, List.set_cons_succ]
      refine wpAnyH_take (i := 9) (v := ?_) rfl (by kernel_rfl) (by kernel_rfl) (by kernel_rfl) (fun _ _ _ h => h) (Or.inl ⟨by kernel_rfl, ?_⟩) (by assumption) ?_
      rotate_left 1
      · intro w hSw; (try dsimp only at hSw); go_simp; try with_reducible rfl
      try simp only [Act.put, List.getElem_toArray, List.getElem_cons_succ, List.getElem_cons_zero, List.setIfInBounds_toArray, List.set_cons_zero, List.set_cons_succ]
      refine wpAnyH_done (by kernel_rfl) ?_ _
      have HL := Lib.hid hl2
      clear hl2 hHeld
      try rw [hkw]
      go_wp2
      go_roundw
      case rel =>
        refine ⟨k + q, by omega, by omega, by go_num, ?_, ?_⟩
        · have := HL.out.blk
          rwa [rowV_step (by omega) (by omega)] at this
        · exact bonly HB.out (HL.out.drew.only (Nat.le_refl _) (Nat.lt_succ_self _)) (Nat.le_refl _) (Nat.le_refl _)
      case measure => simp [RowKit.intOf]; omega
    · obtain rfl : k = n := by omega
      have HO := Lib.hid (rowV_full v k)
      go_wp2
      go_ret
      exact ⟨rfl, by rw [← HO.out]; exact HY.out, HB.out⟩
end Go.Proofs.YtjalgpioklcbfaaGreatDoor
namespace Go.Proofs.YtjalgpioklcbfaaGreatDoor
open Go.RowKit

def okTimes (l : List Int) : Bool := inR l.length 1 24 && l.all fun x => inR x 1 1000
def okWay (times way : List Int) : Bool := inR way.length 1 12 && way.all fun x => inR x 0 ((times.length : Int) - 1)
def okRun (times : List Int) (r : Rn) : Bool := okWay times r.way && inR r.st 0 100000
def okRuns (times : List Int) (rs : List Rn) : Bool := okTimes times && (decide (rs.length ≤ 12) && rs.all (okRun times))
theorem l06Start_any (x : Int) (w : World) : Calls Tryz.prog 167 #[.int .i64 x] w fun e w' => e = .returned (.bool (inR x 0 100000)) ∧ w = w' := by
  go_enter Tryz.func167, Tryz.ntmps167
  go_wp2_with (go_at_call 164; refine (l00In_any _ _ _ _).mono ?_; rintro e w' ⟨rfl, rfl⟩)
  go_ret
  exact ⟨rfl, rfl⟩

theorem l06Times_any (A : Option Addr) (n c B : Nat) (l : List Int) (w : World) (h : Reads w B 1 A n (ints l)) (hn : n ≤ 1048576) :
    Calls Tryz.prog 168 #[.slice A n c] w fun e w' => e = .returned (.bool (okTimes l)) ∧ w = w' := by
  have HL := Lib.hid (ints_len h)
  go_enter Tryz.func168, Tryz.ntmps168
  go_wp2
  go_loop [3] (fun i => ∃ k : Nat, k ≤ n ∧ i = .int .i64 k ∧ AllTo (fun x => inR x 1 1000) l k) (fun i => n - (RowKit.intOf i).toNat)
  case atStart => exact ⟨0, Nat.zero_le _, rfl, AllTo.zero _ _⟩
  case round =>
    obtain ⟨k, hk, rfl, hall⟩ := hrel
    have HA := Lib.hid hall
    clear hall
    by_cases hlt : k < n
    · obtain ⟨x, b, off, he, rfl, hb, c0⟩ := int_at h hlt
      have HE := Lib.hid he
      clear he h
      go_wp2_with fail
      refine (l00In_any _ _ _ _).mono ?_
      rintro e w1 ⟨rfl, rfl⟩
      rcases ho : inR x 1 (1000) with _ | _
      · have HF := Lib.hid (show (okTimes l) = false by simp only [okTimes, okWay, all_bad (p := fun x => inR x 1 1000) HE.out ho, Bool.and_false])
        go_wp2
        go_ret
        exact ⟨ret_bool HF.out.symm, rfl⟩
      · have HT := Lib.hid ho
        go_wp2
        go_round
        case rel => exact ⟨k + 1, by omega, by go_num, HA.out.step (p := fun x => inR x 1 1000) HE.out HT.out⟩
        case measure => simp [RowKit.intOf]; omega
    · obtain rfl : k = n := by omega
      have HF := Lib.hid (show (okTimes l) = inR k 1 24 by simp only [okTimes, okWay, HL.out, HA.out.done HL.out, Bool.and_true])
      go_wp2_with fail
      refine (l00In_any _ _ _ _).mono ?_
      rintro e w1 ⟨rfl, rfl⟩
      rw [← HF.out]
      go_wp2
      go_ret
      exact ⟨rfl, rfl⟩

theorem l06Way_any (P : Option Addr) (m d : Nat) (ts : List Int) (hm : m ≤ 1048576) (hts : ts.length = m) (A : Option Addr) (n c B : Nat) (l : List Int) (w : World) (h : Reads w B 1 A n (ints l)) (hn : n ≤ 1048576) :
    Calls Tryz.prog 166 #[.slice P m d, .slice A n c] w fun e w' => e = .returned (.bool (okWay ts l)) ∧ w = w' := by
  subst hts
  have HL := Lib.hid (ints_len h)
  go_enter Tryz.func166, Tryz.ntmps166
  go_wp2
  go_loop [5] (fun i => ∃ k : Nat, k ≤ n ∧ i = .int .i64 k ∧ AllTo (fun x => inR x 0 ((ts.length : Int) - 1)) l k) (fun i => n - (RowKit.intOf i).toNat)
  case atStart => exact ⟨0, Nat.zero_le _, rfl, AllTo.zero _ _⟩
  case round =>
    obtain ⟨k, hk, rfl, hall⟩ := hrel
    have HA := Lib.hid hall
    clear hall
    by_cases hlt : k < n
    · obtain ⟨x, b, off, he, rfl, hb, c0⟩ := int_at h hlt
      have HE := Lib.hid he
      clear he h
      go_wp2_with fail
      refine (l00In_any _ _ _ _).mono ?_
      rintro e w1 ⟨rfl, rfl⟩
      rcases ho : inR x 0 ((ts.length : Int) - 1) with _ | _
      · have HF := Lib.hid (show (okWay ts l) = false by simp only [okTimes, okWay, all_bad (p := fun x => inR x 0 ((ts.length : Int) - 1)) HE.out ho, Bool.and_false])
        go_wp2
        go_ret
        exact ⟨ret_bool HF.out.symm, rfl⟩
      · have HT := Lib.hid ho
        go_wp2
        go_round
        case rel => exact ⟨k + 1, by omega, by go_num, HA.out.step (p := fun x => inR x 0 ((ts.length : Int) - 1)) HE.out HT.out⟩
        case measure => simp [RowKit.intOf]; omega
    · obtain rfl : k = n := by omega
      have HF := Lib.hid (show (okWay ts l) = inR k 1 12 by simp only [okTimes, okWay, HL.out, HA.out.done HL.out, Bool.and_true])
      go_wp2_with fail
      refine (l00In_any _ _ _ _).mono ?_
      rintro e w1 ⟨rfl, rfl⟩
      rw [← HF.out]
      go_wp2
      go_ret
      exact ⟨rfl, rfl⟩

end Go.Proofs.YtjalgpioklcbfaaGreatDoor
