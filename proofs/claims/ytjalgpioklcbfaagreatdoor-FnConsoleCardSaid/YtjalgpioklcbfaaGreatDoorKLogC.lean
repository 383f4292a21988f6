/- AddEntry, both sides. -/
import Derived.Test.YtjalgpioklcbfaaGreatDoorMgConsoleAI
import Derived.Test.YtjalgpioklcbfaaGreatDoorMgConsoleAA
import Derived.Test.YtjalgpioklcbfaaGreatDoorMgConsoleAH
import Derived.IntWalk
set_option linter.unusedVariables false
set_option linter.unusedSimpArgs false
namespace Go.Proofs.YtjalgpioklcbfaaGreatDoor
open Go.RowKit Go.Lib

def addG (s : ByteArray) (l : List En) (st : Int) (x : En) : ByteArray × Int :=
 if okEn x = true then (if dayR l ≤ x.day then (if 4000 < (s ++ lineB (stampW st (wordsB x)) x).size then (⟨#[]⟩, 5) else (s ++ lineB (stampW st (wordsB x)) x, 0)) else (⟨#[]⟩, 6)) else (⟨#[]⟩, 7)
theorem addG_bad {s : ByteArray} {l : List En} {st : Int} {x : En} (h : okEn x = false) : addG s l st x = (⟨#[]⟩, 7) := by simp [addG, h]
theorem addG_day {s : ByteArray} {l : List En} {st : Int} {x : En} (h : okEn x = true) (h2 : ¬ dayR l ≤ x.day) : addG s l st x = (⟨#[]⟩, 6) := by simp only [addG, h, h2, if_true, if_false]
theorem addG_full {s : ByteArray} {l : List En} {st : Int} {x : En} (h : okEn x = true) (h2 : dayR l ≤ x.day) (h3 : 4000 < (s ++ lineB (stampW st (wordsB x)) x).size) : addG s l st x = (⟨#[]⟩, 5) := by simp only [addG, h, h2, h3, if_true]
theorem addG_ok {s : ByteArray} {l : List En} {st : Int} {x : En} (h : okEn x = true) (h2 : dayR l ≤ x.day) (h3 : ¬ 4000 < (s ++ lineB (stampW st (wordsB x)) x).size) : addG s l st x = (s ++ lineB (stampW st (wordsB x)) x, 0) := by simp only [addG, h, h2, h3, if_true, if_false]
def addEF (s : ByteArray) (x : En) : ByteArray × Int := if codeF s = 0 then addG s (logR s).list (logR s).stamp x else (⟨#[]⟩, codeF s)
theorem addEF_ok {s : ByteArray} {x : En} (h : codeF s = 0) : addEF s x = addG s (logR s).list (logR s).stamp x := by simp only [addEF, h, if_true]
theorem addEF_bad {s : ByteArray} {x : En} (h : codeF s ≠ 0) : addEF s x = (⟨#[]⟩, codeF s) := by simp only [addEF, h, if_false]
set_option maxHeartbeats 4000000 in
set_option maxRecDepth 100000 in
theorem added_any (s : ByteArray) (A : Option Addr) (n d lo hi : Nat) (st v : Int) (l : List En) (x : En) (w : World) (hs : s.size ≤ 1048576) (hsl : Sl w lo hi 145 3 A n d (ens l)) (hln : l.length ≤ 1048576) (h0 : 0 ≤ st) (h1 : st ≤ 65518) (hx : x.good) (hsm : x.small) (ht : TabP w) :
  Calls Tryz.prog 159 #[.string s, .agg #[.slice A n d, .int .i64 st, .int .i64 v], .agg #[.int .i64 x.day, .string x.what, .int .i64 x.val]] w fun e w' => e = .returned (.tuple #[.string (addG s l st x).1, .int .i64 (addG s l st x).2]) ∧ Below w.heap.size w w' := by
 have HT := Lib.hid ht
 clear ht
 obtain ⟨wq, hwq⟩ : ∃ y, (w.alloc (.cells #[.slice A n d, .int .i64 st, .int .i64 v] 150)).alloc (.cells #[.int .i64 x.day, .string x.what, .int .i64 x.val] 145) = y := ⟨_, rfl⟩
 have yo : Blk wq w.heap.size 150 #[.slice A n d, .int .i64 st, .int .i64 v] := by rw [← hwq]; exact (Blk.new _ _ _).alloc _
 have yx : Blk wq (w.heap.size + 1) 145 #[.int .i64 x.day, .string x.what, .int .i64 x.val] := by
  rw [← hwq]
  have := Blk.new (w.alloc (.cells #[.slice A n d, .int .i64 st, .int .i64 v] 150)) 145 #[.int .i64 x.day, .string x.what, .int .i64 x.val]
  simpa using this
 have bq : Below w.heap.size w wq := by rw [← hwq]; exact ((Below.refl _ _).alloc (Nat.le_refl _) _).alloc (by simp) _
 have HBq := Lib.hid bq
 have HSL := Lib.hid (hsl.on bq).low
 have hlnn : l.length = n := by have := hsl.len; rw [ens_length] at this; omega
 have o0 : wq.cell? ⟨w.heap.size, 0, none⟩ = some (.slice A n d) := yo.cellAt 0 (by simp)
 have e0 : wq.cell? ⟨w.heap.size + 1, 0, none⟩ = some (.int .i64 x.day) := yx.cellAt 0 (by simp)
 have e1 : wq.cell? ⟨w.heap.size + 1, 1, none⟩ = some (.string x.what) := yx.cellAt 1 (by simp)
 have e2 : wq.cell? ⟨w.heap.size + 1, 2, none⟩ = some (.int .i64 x.val) := yx.cellAt 2 (by simp)
 clear hsl bq
 rcases hok : okEn x with _ | _
 ·have HO := Lib.hid (addG_bad (s := s) (l := l) (st := st) hok)
  go_enter Tryz.func159, Tryz.ntmps159
  go_wp2_with fail
  (have hk := implValidEntry_any x wq hx hsm)
  rw [hok] at hk
  refine hk.mono ?_
  rintro e w1 ⟨rfl, b1⟩
  clear hk
  have HF := Lib.hid (bnext HBq.out b1 (Nat.le_refl _))
  clear b1 o0 e0 e1 e2 yo yx hwq
  go_wp2
  go_ret2
  rw [HO.out]
  exact ⟨rfl, HF.out⟩
 ·have hws := wordsB_small hok
  have HOK := Lib.hid hok
  have hday0 : 0 ≤ x.day := (okEn_bd hok).1
  by_cases hn0 : n = 0
  ·have hdle : dayR l ≤ x.day := by rw [List.length_eq_zero_iff.1 (hlnn.trans hn0), dayR_nil]; exact hday0
   have hg0 : decide (0 < n) = false := decide_eq_false (by omega)
   clear hn0
   go_enter Tryz.func159, Tryz.ntmps159
   go_wp2_with fail
   (have hk := implValidEntry_any x wq hx hsm)
   rw [hok] at hk
   refine hk.mono ?_
   rintro e w1 ⟨rfl, b1⟩
   clear hk
   have yo1 := yo.on b1
   have yx1 := yx.on b1
   have HB1 := Lib.hid (bnext HBq.out b1 (Nat.le_refl _))
   clear b1 o0 e0 e1 e2 yo yx hwq
   go_wp2_with fail
   refine wp_region_held_drew (S := (fun W => Below w.heap.size w W ∧ Blk W w.heap.size 150 #[.slice A n d, .int .i64 st, .int .i64 v] ∧ Blk W (w.heap.size + 1) 145 #[.int .i64 x.day, .string x.what, .int .i64 x.val])) (by kernel_rfl) ?_ (fun hHeld => ?_)
   ·exact ⟨HB1.out.drew, yo1.drew, yx1.drew⟩
   refine tk 0 rfl ?_ ?_ ?_
   rotate_left
   ·intro w _; go_simp; try with_reducible rfl
   try simp only [Act.put, ly]
   refine tk 1 rfl ?_ ?_ ?_
   rotate_left
   ·intro w _; go_simp; try with_reducible rfl
   try simp only [Act.put, ly]
   refine tk 2 rfl ?_ ?_ ?_
   rotate_left
   ·intro w _; go_simp; try with_reducible rfl
   try simp only [Act.put, ly]
   refine tu 3 rfl ?_
   try simp only [Act.put, ly]
   refine tu 4 rfl ?_
   try simp only [Act.put, ly]
   refine tu 5 rfl ?_
   try simp only [Act.put, ly]
   refine tu 6 rfl ?_
   try simp only [Act.put, ly]
   refine tu 7 rfl ?_
   try simp only [Act.put, ly]
   refine tu 8 rfl ?_
   try simp only [Act.put, ly]
   refine tu 9 rfl ?_
   try simp only [Act.put, ly]
   refine tu 10 rfl ?_
   try simp only [Act.put, ly]
   refine tu 11 rfl ?_
   try simp only [Act.put, ly]
   refine tu 12 rfl ?_
   try simp only [Act.put, ly]
   refine tk 13 rfl ?_ ?_ ?_
   rotate_left
   ·intro w _; go_simp; try with_reducible rfl
   try simp only [Act.put, ly]
   refine tk 14 rfl ?_ ?_ ?_
   rotate_left
   ·intro w _; go_simp; try with_reducible rfl
   try simp only [Act.put, ly]
   refine wpAnyH_done (by kernel_rfl) ?_ _
   have HB2 := Lib.hid hHeld.1
   have yo2 := hHeld.2.1
   have yx2 := hHeld.2.2
   clear hHeld yo1 yx1
   go_wp2_with fail
   obtain ⟨sp, hsp⟩ : ∃ y, stampW st (wordsB x) = y := ⟨_, rfl⟩
   have hspb := stampW_bd st (wordsB x)
   rw [hsp] at hspb
   have HSP := Lib.hid hsp
   have hs2 : (asBytes (itoa sp)).size ≤ 20 := by rw [asBytes_size]; exact itoa_len (by omega) (by omega)
   have n1 : ¬ (9223372036854775807 < (wordsB x).size + 1) := by omega
   have n2 : ¬ (9223372036854775807 < (wordsB x).size + 1 + (asBytes (itoa sp)).size) := by omega
   have n3 : ¬ (9223372036854775807 < (wordsB x).size + 1 + (asBytes (itoa sp)).size + 1) := by omega
   have n4 : ¬ (9223372036854775807 < s.size + ((wordsB x).size + 1 + (asBytes (itoa sp)).size + 1)) := by omega
   clear hsp
   refine wp_region_held_drew (S := (fun W => Below w.heap.size w W ∧ Blk W w.heap.size 150 #[.slice A n d, .int .i64 st, .int .i64 v] ∧ Blk W (w.heap.size + 1) 145 #[.int .i64 x.day, .string x.what, .int .i64 x.val])) (by kernel_rfl) ?_ (fun hHeld => ?_)
   ·exact ⟨HB2.out.drew, yo2.drew, yx2.drew⟩
   refine tk 0 rfl ?_ ?_ ?_
   rotate_left
   ·intro w _; go_simp; try with_reducible rfl
   try simp only [Act.put, ly]
   refine tk 1 rfl ?_ ?_ ?_
   rotate_left
   ·intro w hSw; (try dsimp only at hSw); (have o0 := hSw.2.1.cellAt 0 (by simp)); (have o1 := hSw.2.1.cellAt 1 (by simp)); (have o2 := hSw.2.1.cellAt 2 (by simp)); (have e0 := hSw.2.2.cellAt 0 (by simp)); (have e1 := hSw.2.2.cellAt 1 (by simp)); (have e2 := hSw.2.2.cellAt 2 (by simp)); go_simp; try with_reducible rfl
   try simp only [Act.put, ly]
   refine tk 4 rfl ?_ ?_ ?_
   rotate_left
   ·intro w _; go_simp; try with_reducible rfl
   try simp only [Act.put, ly]
   refine tk 5 rfl ?_ ?_ ?_
   rotate_left
   ·intro w hSw; (try dsimp only at hSw); (have o0 := hSw.2.1.cellAt 0 (by simp)); (have o1 := hSw.2.1.cellAt 1 (by simp)); (have o2 := hSw.2.1.cellAt 2 (by simp)); (have e0 := hSw.2.2.cellAt 0 (by simp)); (have e1 := hSw.2.2.cellAt 1 (by simp)); (have e2 := hSw.2.2.cellAt 2 (by simp)); go_simp; try with_reducible rfl
   try simp only [Act.put, ly]
   refine tk 6 rfl ?_ ?_ ?_
   rotate_left
   ·intro w hSw; (try dsimp only at hSw); (have o0 := hSw.2.1.cellAt 0 (by simp)); (have o1 := hSw.2.1.cellAt 1 (by simp)); (have o2 := hSw.2.1.cellAt 2 (by simp)); (have e0 := hSw.2.2.cellAt 0 (by simp)); (have e1 := hSw.2.2.cellAt 1 (by simp)); (have e2 := hSw.2.2.cellAt 2 (by simp)); go_simp; try with_reducible rfl
   try simp only [Act.put, ly]
   refine wpAnyH_ready (rs := [2]) (by kernel_rfl) (by simp) ?_
   refine AllReadyH.cons rfl (fun K hK => ?_) AllReadyH.nil
   go_simp
   go_at_call 95
   refine (entryWords_any x _ hx hsm (tabUp HT.out hHeld.1)).mono ?_
   rintro e w5 ⟨rfl, b5⟩
   go_wp2_with fail
   refine hK.out _ _ ?_ (fun hNew => ?_)
   ·exact ⟨bnext hHeld.1 b5 (Nat.le_refl _), hHeld.2.1.on b5, hHeld.2.2.on b5⟩
   clear hK K hHeld
   have hHeld := hNew
   clear hNew
   try simp only [Act.put, ly]
   refine tk 3 rfl ?_ ?_ ?_
   rotate_left
   ·intro w _; go_simp; try with_reducible rfl
   try simp only [Act.put, ly]
   refine wpAnyH_ready (rs := [7]) (by kernel_rfl) (by simp) ?_
   refine AllReadyH.cons rfl (fun K hK => ?_) AllReadyH.nil
   go_simp
   go_at_call 162
   (have hst := stampOf_any st x _ hx hsm h0 h1 (tabUp HT.out hHeld.1))
   rw [HSP.out] at hst
   refine hst.mono ?_
   rintro e w6 ⟨rfl, b6⟩
   clear hst
   go_wp2_with fail
   refine hK.out _ _ ?_ (fun hNew => ?_)
   ·exact ⟨bnext hHeld.1 b6 (Nat.le_refl _), hHeld.2.1.on b6, hHeld.2.2.on b6⟩
   clear hK K hHeld
   have hHeld := hNew
   clear hNew
   try simp only [Act.put, ly]
   refine wpAnyH_ready (rs := [8]) (by kernel_rfl) (by simp) ?_
   refine AllReadyH.cons rfl (fun K hK => ?_) AllReadyH.nil
   go_simp
   go_at_call 38
   refine (decimal_any sp _ (by omega) (by omega) (tabUp HT.out hHeld.1)).mono ?_
   rintro e w7 ⟨rfl, b7⟩
   go_wp2_with fail
   refine hK.out _ _ ?_ (fun hNew => ?_)
   ·exact ⟨bnext hHeld.1 b7 (Nat.le_refl _), hHeld.2.1.on b7, hHeld.2.2.on b7⟩
   clear hK K hHeld
   have hHeld := hNew
   clear hNew
   try simp only [Act.put, ly]
   refine tk 9 rfl ?_ ?_ ?_
   rotate_left
   ·intro w _; go_simp; try with_reducible rfl
   try simp only [Act.put, ly]
   refine tk 10 rfl ?_ ?_ ?_
   rotate_left
   ·intro w _; go_simp; try with_reducible rfl
   try simp only [Act.put, ly]
   refine tk 11 rfl ?_ ?_ ?_
   rotate_left
   ·intro w _; go_simp; try with_reducible rfl
   try simp only [Act.put, ly]
   refine tk 12 rfl ?_ ?_ ?_
   rotate_left
   ·intro w _; go_simp; try with_reducible rfl
   try simp only [Act.put, ly]
   refine wpAnyH_done (by kernel_rfl) ?_ _
   have HF := Lib.hid hHeld.1
   clear hHeld yo2 yx2
   have hle : (s ++ lineB sp x).size = s.size + ((wordsB x).size + 1 + (asBytes (itoa sp)).size + 1) := by
    rw [ByteArray.size_append]
    simp only [lineB, ByteArray.size_append]
    rfl
   by_cases hfl : 4000 < (s ++ lineB sp x).size
   ·have hfi2 : (4000 : Int) < (s.size : Int) + (((wordsB x).size : Int) + 1 + ((asBytes (itoa sp)).size : Int) + 1) := by omega
    have HO := Lib.hid (addG_full HOK.out hdle (by rw [HSP.out]; exact hfl))
    clear hle hfl
    go_wp2
    go_ret2
    rw [HO.out]
    exact ⟨rfl, HF.out⟩
   ·have hfi2 : ¬ ((4000 : Int) < (s.size : Int) + (((wordsB x).size : Int) + 1 + ((asBytes (itoa sp)).size : Int) + 1)) := by omega
    have HO := Lib.hid (addG_ok HOK.out hdle (by rw [HSP.out]; exact hfl))
    clear hle hfl
    go_wp2
    go_ret2
    rw [HO.out, HSP.out]
    exact ⟨rfl, HF.out⟩
  ·obtain ⟨j, rfl⟩ : ∃ j, n = j + 1 := ⟨n - 1, by omega⟩
   obtain ⟨y, lb, loff, hy, rfl, hlb, hlast, _, _⟩ := en_at (k := j) (HSL.out.reads (Nat.le_refl _)) (by omega)
   have hlo : loff = 0 := by
    rcases HSL.out.form with ⟨h1, _⟩ | ⟨g1, cur, h1, _⟩
    ·cases h1
    ·injection h1 with h1; injection h1
   subst hlo
   rw [Nat.zero_add] at hlast
   have hj0 : (0 : Int) ≤ j := by omega
   have hj1 : (j : Int) < (j : Int) + 1 := by omega
   have hg0 : decide ((0 : Int) < (j : Int) + 1) = true := decide_eq_true (by omega)
   have hjw : IntKind.i64.wrap (j : Int) = j := by
    unfold IntKind.wrap; simp [IntKind.bits, IntKind.signed]; omega
   have hdr : dayR l = y.day := dayR_last (by rw [hlnn]; exact hy)
   clear hy
   by_cases hdle : dayR l ≤ x.day
   ·have hg1 : decide (x.day < y.day) = false := decide_eq_false (by omega)
    clear hdr
    go_enter Tryz.func159, Tryz.ntmps159
    go_wp2_with fail
    (have hk := implValidEntry_any x wq hx hsm)
    rw [hok] at hk
    refine hk.mono ?_
    rintro e w1 ⟨rfl, b1⟩
    clear hk
    have yo1 := yo.on b1
    have yx1 := yx.on b1
    have HB1 := Lib.hid (bnext HBq.out b1 (Nat.le_refl _))
    have l1 := cell_on b1 hlast
    clear b1 o0 e0 e1 e2 yo yx hwq
    go_wp2_with fail
    refine wp_region_held_drew (S := (fun W => Below w.heap.size w W ∧ Blk W w.heap.size 150 #[.slice (some ⟨lb, 0, none⟩) (j + 1) d, .int .i64 st, .int .i64 v] ∧ Blk W (w.heap.size + 1) 145 #[.int .i64 x.day, .string x.what, .int .i64 x.val] ∧ W.cell? ⟨lb, j * 3, none⟩ = some (.int .i64 y.day))) (by kernel_rfl) ?_ (fun hHeld => ?_)
    ·exact ⟨HB1.out.drew, yo1.drew, yx1.drew, l1⟩
    refine tk 0 rfl ?_ ?_ ?_
    rotate_left
    ·intro w _; go_simp; try with_reducible rfl
    try simp only [Act.put, ly]
    refine tk 1 rfl ?_ ?_ ?_
    rotate_left
    ·intro w _; go_simp; try with_reducible rfl
    try simp only [Act.put, ly]
    refine tk 2 rfl ?_ ?_ ?_
    rotate_left
    ·intro w _; go_simp; try with_reducible rfl
    try simp only [Act.put, ly]
    refine tk 3 rfl ?_ ?_ ?_
    rotate_left
    ·intro w _; go_simp; try with_reducible rfl
    try simp only [Act.put, ly]
    refine tk 4 rfl ?_ ?_ ?_
    rotate_left
    ·intro w hSw; (try dsimp only at hSw); (have o0 := hSw.2.1.cellAt 0 (by simp)); (have o1 := hSw.2.1.cellAt 1 (by simp)); (have o2 := hSw.2.1.cellAt 2 (by simp)); (have e0 := hSw.2.2.1.cellAt 0 (by simp)); (have e1 := hSw.2.2.1.cellAt 1 (by simp)); (have e2 := hSw.2.2.1.cellAt 2 (by simp)); (have l0 := hSw.2.2.2); go_simp; try with_reducible rfl
    try simp only [Act.put, ly]
    refine tk 5 rfl ?_ ?_ ?_
    rotate_left
    ·intro w _; go_simp; try with_reducible rfl
    try simp only [Act.put, ly]
    refine tk 6 rfl ?_ ?_ ?_
    rotate_left
    ·intro w _; go_simp; try with_reducible rfl
    try simp only [Act.put, ly]
    refine tk 7 rfl ?_ ?_ ?_
    rotate_left
    ·intro w _; go_simp; try with_reducible rfl
    try simp only [Act.put, ly]
    refine tk 8 rfl ?_ ?_ ?_
    rotate_left
    ·intro w _; go_simp; try with_reducible rfl
    try simp only [Act.put, ly]
    refine tk 9 rfl ?_ ?_ ?_
    rotate_left
    ·intro w hSw; (try dsimp only at hSw); (have o0 := hSw.2.1.cellAt 0 (by simp)); (have o1 := hSw.2.1.cellAt 1 (by simp)); (have o2 := hSw.2.1.cellAt 2 (by simp)); (have e0 := hSw.2.2.1.cellAt 0 (by simp)); (have e1 := hSw.2.2.1.cellAt 1 (by simp)); (have e2 := hSw.2.2.1.cellAt 2 (by simp)); (have l0 := hSw.2.2.2); go_simp; try with_reducible rfl
    try simp only [Act.put, ly]
    refine tk 10 rfl ?_ ?_ ?_
    rotate_left
    ·intro w _; go_simp; try with_reducible rfl
    try simp only [Act.put, ly]
    refine tk 11 rfl ?_ ?_ ?_
    rotate_left
    ·intro w hSw; (try dsimp only at hSw); (have o0 := hSw.2.1.cellAt 0 (by simp)); (have o1 := hSw.2.1.cellAt 1 (by simp)); (have o2 := hSw.2.1.cellAt 2 (by simp)); (have e0 := hSw.2.2.1.cellAt 0 (by simp)); (have e1 := hSw.2.2.1.cellAt 1 (by simp)); (have e2 := hSw.2.2.1.cellAt 2 (by simp)); (have l0 := hSw.2.2.2); go_simp; try with_reducible rfl
    try simp only [Act.put, ly]
    refine tk 12 rfl ?_ ?_ ?_
    rotate_left
    ·intro w _; go_simp; try with_reducible rfl
    try simp only [Act.put, ly]
    refine tk 13 rfl ?_ ?_ ?_
    rotate_left
    ·intro w _; go_simp; try with_reducible rfl
    try simp only [Act.put, ly]
    refine tk 14 rfl ?_ ?_ ?_
    rotate_left
    ·intro w _; go_simp; try with_reducible rfl
    try simp only [Act.put, ly]
    refine wpAnyH_done (by kernel_rfl) ?_ _
    have HB2 := Lib.hid hHeld.1
    have yo2 := hHeld.2.1
    have yx2 := hHeld.2.2.1
    clear hHeld yo1 yx1
    go_wp2_with fail
    obtain ⟨sp, hsp⟩ : ∃ y, stampW st (wordsB x) = y := ⟨_, rfl⟩
    have hspb := stampW_bd st (wordsB x)
    rw [hsp] at hspb
    have HSP := Lib.hid hsp
    have hs2 : (asBytes (itoa sp)).size ≤ 20 := by rw [asBytes_size]; exact itoa_len (by omega) (by omega)
    have n1 : ¬ (9223372036854775807 < (wordsB x).size + 1) := by omega
    have n2 : ¬ (9223372036854775807 < (wordsB x).size + 1 + (asBytes (itoa sp)).size) := by omega
    have n3 : ¬ (9223372036854775807 < (wordsB x).size + 1 + (asBytes (itoa sp)).size + 1) := by omega
    have n4 : ¬ (9223372036854775807 < s.size + ((wordsB x).size + 1 + (asBytes (itoa sp)).size + 1)) := by omega
    clear hsp
    refine wp_region_held_drew (S := (fun W => Below w.heap.size w W ∧ Blk W w.heap.size 150 #[.slice (some ⟨lb, 0, none⟩) (j + 1) d, .int .i64 st, .int .i64 v] ∧ Blk W (w.heap.size + 1) 145 #[.int .i64 x.day, .string x.what, .int .i64 x.val])) (by kernel_rfl) ?_ (fun hHeld => ?_)
    ·exact ⟨HB2.out.drew, yo2.drew, yx2.drew⟩
    refine tk 0 rfl ?_ ?_ ?_
    rotate_left
    ·intro w _; go_simp; try with_reducible rfl
    try simp only [Act.put, ly]
    refine tk 1 rfl ?_ ?_ ?_
    rotate_left
    ·intro w hSw; (try dsimp only at hSw); (have o0 := hSw.2.1.cellAt 0 (by simp)); (have o1 := hSw.2.1.cellAt 1 (by simp)); (have o2 := hSw.2.1.cellAt 2 (by simp)); (have e0 := hSw.2.2.cellAt 0 (by simp)); (have e1 := hSw.2.2.cellAt 1 (by simp)); (have e2 := hSw.2.2.cellAt 2 (by simp)); go_simp; try with_reducible rfl
    try simp only [Act.put, ly]
    refine tk 4 rfl ?_ ?_ ?_
    rotate_left
    ·intro w _; go_simp; try with_reducible rfl
    try simp only [Act.put, ly]
    refine tk 5 rfl ?_ ?_ ?_
    rotate_left
    ·intro w hSw; (try dsimp only at hSw); (have o0 := hSw.2.1.cellAt 0 (by simp)); (have o1 := hSw.2.1.cellAt 1 (by simp)); (have o2 := hSw.2.1.cellAt 2 (by simp)); (have e0 := hSw.2.2.cellAt 0 (by simp)); (have e1 := hSw.2.2.cellAt 1 (by simp)); (have e2 := hSw.2.2.cellAt 2 (by simp)); go_simp; try with_reducible rfl
    try simp only [Act.put, ly]
    refine tk 6 rfl ?_ ?_ ?_
    rotate_left
    ·intro w hSw; (try dsimp only at hSw); (have o0 := hSw.2.1.cellAt 0 (by simp)); (have o1 := hSw.2.1.cellAt 1 (by simp)); (have o2 := hSw.2.1.cellAt 2 (by simp)); (have e0 := hSw.2.2.cellAt 0 (by simp)); (have e1 := hSw.2.2.cellAt 1 (by simp)); (have e2 := hSw.2.2.cellAt 2 (by simp)); go_simp; try with_reducible rfl
    try simp only [Act.put, ly]
    refine wpAnyH_ready (rs := [2]) (by kernel_rfl) (by simp) ?_
    refine AllReadyH.cons rfl (fun K hK => ?_) AllReadyH.nil
    go_simp
    go_at_call 95
    refine (entryWords_any x _ hx hsm (tabUp HT.out hHeld.1)).mono ?_
    rintro e w5 ⟨rfl, b5⟩
    go_wp2_with fail
    refine hK.out _ _ ?_ (fun hNew => ?_)
    ·exact ⟨bnext hHeld.1 b5 (Nat.le_refl _), hHeld.2.1.on b5, hHeld.2.2.on b5⟩
    clear hK K hHeld
    have hHeld := hNew
    clear hNew
    try simp only [Act.put, ly]
    refine tk 3 rfl ?_ ?_ ?_
    rotate_left
    ·intro w _; go_simp; try with_reducible rfl
    try simp only [Act.put, ly]
    refine wpAnyH_ready (rs := [7]) (by kernel_rfl) (by simp) ?_
    refine AllReadyH.cons rfl (fun K hK => ?_) AllReadyH.nil
    go_simp
    go_at_call 162
    (have hst := stampOf_any st x _ hx hsm h0 h1 (tabUp HT.out hHeld.1))
    rw [HSP.out] at hst
    refine hst.mono ?_
    rintro e w6 ⟨rfl, b6⟩
    clear hst
    go_wp2_with fail
    refine hK.out _ _ ?_ (fun hNew => ?_)
    ·exact ⟨bnext hHeld.1 b6 (Nat.le_refl _), hHeld.2.1.on b6, hHeld.2.2.on b6⟩
    clear hK K hHeld
    have hHeld := hNew
    clear hNew
    try simp only [Act.put, ly]
    refine wpAnyH_ready (rs := [8]) (by kernel_rfl) (by simp) ?_
    refine AllReadyH.cons rfl (fun K hK => ?_) AllReadyH.nil
    go_simp
    go_at_call 38
    refine (decimal_any sp _ (by omega) (by omega) (tabUp HT.out hHeld.1)).mono ?_
    rintro e w7 ⟨rfl, b7⟩
    go_wp2_with fail
    refine hK.out _ _ ?_ (fun hNew => ?_)
    ·exact ⟨bnext hHeld.1 b7 (Nat.le_refl _), hHeld.2.1.on b7, hHeld.2.2.on b7⟩
    clear hK K hHeld
    have hHeld := hNew
    clear hNew
    try simp only [Act.put, ly]
    refine tk 9 rfl ?_ ?_ ?_
    rotate_left
    ·intro w _; go_simp; try with_reducible rfl
    try simp only [Act.put, ly]
    refine tk 10 rfl ?_ ?_ ?_
    rotate_left
    ·intro w _; go_simp; try with_reducible rfl
    try simp only [Act.put, ly]
    refine tk 11 rfl ?_ ?_ ?_
    rotate_left
    ·intro w _; go_simp; try with_reducible rfl
    try simp only [Act.put, ly]
    refine tk 12 rfl ?_ ?_ ?_
    rotate_left
    ·intro w _; go_simp; try with_reducible rfl
    try simp only [Act.put, ly]
    refine wpAnyH_done (by kernel_rfl) ?_ _
    have HF := Lib.hid hHeld.1
    clear hHeld yo2 yx2
    have hle : (s ++ lineB sp x).size = s.size + ((wordsB x).size + 1 + (asBytes (itoa sp)).size + 1) := by
     rw [ByteArray.size_append]
     simp only [lineB, ByteArray.size_append]
     rfl
    by_cases hfl : 4000 < (s ++ lineB sp x).size
    ·have hfi2 : (4000 : Int) < (s.size : Int) + (((wordsB x).size : Int) + 1 + ((asBytes (itoa sp)).size : Int) + 1) := by omega
     have HO := Lib.hid (addG_full HOK.out hdle (by rw [HSP.out]; exact hfl))
     clear hle hfl
     go_wp2
     go_ret2
     rw [HO.out]
     exact ⟨rfl, HF.out⟩
    ·have hfi2 : ¬ ((4000 : Int) < (s.size : Int) + (((wordsB x).size : Int) + 1 + ((asBytes (itoa sp)).size : Int) + 1)) := by omega
     have HO := Lib.hid (addG_ok HOK.out hdle (by rw [HSP.out]; exact hfl))
     clear hle hfl
     go_wp2
     go_ret2
     rw [HO.out, HSP.out]
     exact ⟨rfl, HF.out⟩
   ·have hg1 : decide (x.day < y.day) = true := decide_eq_true (by omega)
    have HO := Lib.hid (addG_day (s := s) (st := st) hok hdle)
    clear hdr
    go_enter Tryz.func159, Tryz.ntmps159
    go_wp2_with fail
    (have hk := implValidEntry_any x wq hx hsm)
    rw [hok] at hk
    refine hk.mono ?_
    rintro e w1 ⟨rfl, b1⟩
    clear hk
    have yo1 := yo.on b1
    have yx1 := yx.on b1
    have HB1 := Lib.hid (bnext HBq.out b1 (Nat.le_refl _))
    have l1 := cell_on b1 hlast
    clear b1 o0 e0 e1 e2 yo yx hwq
    go_wp2_with fail
    refine wp_region_held_drew (S := (fun W => Below w.heap.size w W ∧ Blk W w.heap.size 150 #[.slice (some ⟨lb, 0, none⟩) (j + 1) d, .int .i64 st, .int .i64 v] ∧ Blk W (w.heap.size + 1) 145 #[.int .i64 x.day, .string x.what, .int .i64 x.val] ∧ W.cell? ⟨lb, j * 3, none⟩ = some (.int .i64 y.day))) (by kernel_rfl) ?_ (fun hHeld => ?_)
    ·exact ⟨HB1.out.drew, yo1.drew, yx1.drew, l1⟩
    refine tk 0 rfl ?_ ?_ ?_
    rotate_left
    ·intro w _; go_simp; try with_reducible rfl
    try simp only [Act.put, ly]
    refine tk 1 rfl ?_ ?_ ?_
    rotate_left
    ·intro w _; go_simp; try with_reducible rfl
    try simp only [Act.put, ly]
    refine tk 2 rfl ?_ ?_ ?_
    rotate_left
    ·intro w _; go_simp; try with_reducible rfl
    try simp only [Act.put, ly]
    refine tk 3 rfl ?_ ?_ ?_
    rotate_left
    ·intro w _; go_simp; try with_reducible rfl
    try simp only [Act.put, ly]
    refine tk 4 rfl ?_ ?_ ?_
    rotate_left
    ·intro w hSw; (try dsimp only at hSw); (have o0 := hSw.2.1.cellAt 0 (by simp)); (have o1 := hSw.2.1.cellAt 1 (by simp)); (have o2 := hSw.2.1.cellAt 2 (by simp)); (have e0 := hSw.2.2.1.cellAt 0 (by simp)); (have e1 := hSw.2.2.1.cellAt 1 (by simp)); (have e2 := hSw.2.2.1.cellAt 2 (by simp)); (have l0 := hSw.2.2.2); go_simp; try with_reducible rfl
    try simp only [Act.put, ly]
    refine tk 5 rfl ?_ ?_ ?_
    rotate_left
    ·intro w _; go_simp; try with_reducible rfl
    try simp only [Act.put, ly]
    refine tk 6 rfl ?_ ?_ ?_
    rotate_left
    ·intro w _; go_simp; try with_reducible rfl
    try simp only [Act.put, ly]
    refine tk 7 rfl ?_ ?_ ?_
    rotate_left
    ·intro w _; go_simp; try with_reducible rfl
    try simp only [Act.put, ly]
    refine tk 8 rfl ?_ ?_ ?_
    rotate_left
    ·intro w _; go_simp; try with_reducible rfl
    try simp only [Act.put, ly]
    refine tk 9 rfl ?_ ?_ ?_
    rotate_left
    ·intro w hSw; (try dsimp only at hSw); (have o0 := hSw.2.1.cellAt 0 (by simp)); (have o1 := hSw.2.1.cellAt 1 (by simp)); (have o2 := hSw.2.1.cellAt 2 (by simp)); (have e0 := hSw.2.2.1.cellAt 0 (by simp)); (have e1 := hSw.2.2.1.cellAt 1 (by simp)); (have e2 := hSw.2.2.1.cellAt 2 (by simp)); (have l0 := hSw.2.2.2); go_simp; try with_reducible rfl
    try simp only [Act.put, ly]
    refine tk 10 rfl ?_ ?_ ?_
    rotate_left
    ·intro w _; go_simp; try with_reducible rfl
    try simp only [Act.put, ly]
    refine tk 11 rfl ?_ ?_ ?_
    rotate_left
    ·intro w hSw; (try dsimp only at hSw); (have o0 := hSw.2.1.cellAt 0 (by simp)); (have o1 := hSw.2.1.cellAt 1 (by simp)); (have o2 := hSw.2.1.cellAt 2 (by simp)); (have e0 := hSw.2.2.1.cellAt 0 (by simp)); (have e1 := hSw.2.2.1.cellAt 1 (by simp)); (have e2 := hSw.2.2.1.cellAt 2 (by simp)); (have l0 := hSw.2.2.2); go_simp; try with_reducible rfl
    try simp only [Act.put, ly]
    refine tk 12 rfl ?_ ?_ ?_
    rotate_left
    ·intro w _; go_simp; try with_reducible rfl
    try simp only [Act.put, ly]
    refine tk 13 rfl ?_ ?_ ?_
    rotate_left
    ·intro w _; go_simp; try with_reducible rfl
    try simp only [Act.put, ly]
    refine tk 14 rfl ?_ ?_ ?_
    rotate_left
    ·intro w _; go_simp; try with_reducible rfl
    try simp only [Act.put, ly]
    refine wpAnyH_done (by kernel_rfl) ?_ _
    have HF := Lib.hid hHeld.1
    clear hHeld
    go_wp2
    go_ret2
    rw [HO.out]
    exact ⟨rfl, HF.out⟩
set_option maxHeartbeats 4000000 in
set_option maxRecDepth 100000 in
theorem implAddEntry_any (s : ByteArray) (x : En) (m : Int) (w : World) (hs : s.size ≤ 1048576) (hx : x.good) (hsm : x.small) (hm : w.cell? ⟨1, 0, none⟩ = some (.int .i64 m)) (ht : TabP w) (hv : SynP w) :
  Calls Tryz.prog 91 #[.string s, .agg #[.int .i64 x.day, .string x.what, .int .i64 x.val]] w fun e w' => e = .returned (.tuple #[.string (addEF s x).1, .int .i64 (addEF s x).2]) ∧ Below w.heap.size w w' := by
 have b0 : Below w.heap.size w (w.alloc (.cells #[.int .i64 x.day, .string x.what, .int .i64 x.val] 145)) := (Below.refl _ _).alloc (Nat.le_refl _) _
 obtain ⟨wx, hwx⟩ : ∃ y, w.alloc (.cells #[.int .i64 x.day, .string x.what, .int .i64 x.val] 145) = y := ⟨_, rfl⟩
 have yx : Blk wx w.heap.size 145 #[.int .i64 x.day, .string x.what, .int .i64 x.val] := by rw [← hwx]; exact Blk.new _ _ _
 rw [hwx] at b0
 have HC := Lib.hid (logCode_any s m wx hs (cell_on b0 hm) (tabUp ht b0) (synUp hv b0))
 have HT := Lib.hid ht
 have HBx := Lib.hid b0
 clear ht hv hm b0
 by_cases hc : codeF s = 0
 ·have HO := Lib.hid (addEF_ok (x := x) hc)
  have HR := codeR_ok hc
  have hlen := logR_len hc
  have hrok := logR_ok s
  go_enter Tryz.func91, Tryz.ntmps91
  go_wp2_with fail
  refine HC.out.mono ?_
  rintro e w1 ⟨A, n, d, rfl, hsl, b1⟩
  obtain ⟨wq, hwq⟩ : ∃ y, w1.alloc (.cells #[.slice A n d, .int .i64 (codeR s).stamp, .int .i64 ((codeR s).at_ : Int)] 150) = y := ⟨_, rfl⟩
  have bq : Below w1.heap.size w1 wq := by rw [← hwq]; exact (Below.refl _ _).alloc (Nat.le_refl _) _
  have yb : Blk wq w1.heap.size 150 #[.slice A n d, .int .i64 (codeR s).stamp, .int .i64 ((codeR s).at_ : Int)] := by rw [← hwq]; exact Blk.new _ _ _
  have HB := Lib.hid (bnext (bnext HBx.out b1 (Nat.le_refl _)) bq (Nat.le_refl _))
  have yx1 := (yx.on b1).on bq
  have hsq := (hsl.on bq).low
  have e0 : wq.cell? ⟨w.heap.size, 0, none⟩ = some (.int .i64 x.day) := yx1.cellAt 0 (by simp)
  have e1 : wq.cell? ⟨w.heap.size, 1, none⟩ = some (.string x.what) := yx1.cellAt 1 (by simp)
  have e2 : wq.cell? ⟨w.heap.size, 2, none⟩ = some (.int .i64 x.val) := yx1.cellAt 2 (by simp)
  have o0 : wq.cell? ⟨w1.heap.size, 0, none⟩ = some (.slice A n d) := yb.cellAt 0 (by simp)
  have o1 : wq.cell? ⟨w1.heap.size, 1, none⟩ = some (.int .i64 (codeR s).stamp) := yb.cellAt 1 (by simp)
  have o2 : wq.cell? ⟨w1.heap.size, 2, none⟩ = some (.int .i64 ((codeR s).at_ : Int)) := yb.cellAt 2 (by simp)
  rw [hc]
  have HS := Lib.hid hsq
  have HRR := Lib.hid HR
  clear yx yx1 yb hsl hsq b1 bq HR hc hwx
  go_wp2_with fail
  refine (added_any s A n d _ _ (codeR s).stamp ((codeR s).at_ : Int) (codeR s).list x _ hs HS.out (by rw [HRR.out]; omega) (by rw [HRR.out]; exact hrok.stamp0) (by rw [HRR.out]; exact hrok.stamp1) hx hsm (tabUp HT.out HB.out)).mono ?_
  rintro e w2 ⟨rfl, b2⟩
  have HF := Lib.hid (bnext HB.out b2 (Nat.le_refl _))
  clear b2 e0 e1 e2 o0 o1 o2 hwq
  go_wp2
  go_ret2
  rw [HO.out, HRR.out]
  exact ⟨rfl, HF.out⟩
 ·have HO := Lib.hid (addEF_bad (x := x) hc)
  go_enter Tryz.func91, Tryz.ntmps91
  go_wp2_with fail
  refine HC.out.mono ?_
  rintro e w1 ⟨A, n, d, rfl, hsl, b1⟩
  obtain ⟨wq, hwq⟩ : ∃ y, w1.alloc (.cells #[.slice A n d, .int .i64 (codeR s).stamp, .int .i64 ((codeR s).at_ : Int)] 150) = y := ⟨_, rfl⟩
  have bq : Below w1.heap.size w1 wq := by rw [← hwq]; exact (Below.refl _ _).alloc (Nat.le_refl _) _
  have yb : Blk wq w1.heap.size 150 #[.slice A n d, .int .i64 (codeR s).stamp, .int .i64 ((codeR s).at_ : Int)] := by rw [← hwq]; exact Blk.new _ _ _
  have HB := Lib.hid (bnext (bnext HBx.out b1 (Nat.le_refl _)) bq (Nat.le_refl _))
  clear yx yb hsl b1 bq hwx
  obtain ⟨v, hv⟩ : ∃ v, codeF s = v := ⟨_, rfl⟩
  rw [hv] at hc HO ⊢
  have hq : (v != 0) = true := by simpa using hc
  have hq2 : (v == 0) = false := by simpa using hc
  clear hc hv
  go_wp2
  go_ret2
  rw [HO.out]
  exact ⟨rfl, HB.out⟩
end Go.Proofs.YtjalgpioklcbfaaGreatDoor
