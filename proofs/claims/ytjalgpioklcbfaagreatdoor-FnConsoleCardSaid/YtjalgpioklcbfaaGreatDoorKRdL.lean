/- A line of a log, as the program reads it. -/
import Derived.Test.YtjalgpioklcbfaaGreatDoorMgConsoleAF
import Derived.Test.YtjalgpioklcbfaaGreatDoorMgConsoleAA
import Derived.Test.YtjalgpioklcbfaaGreatDoorMgConsoleAD
import Derived.Test.YtjalgpioklcbfaaGreatDoorMgConsoleAC
import Derived.Deep.RegionHeld3
set_option linter.unusedVariables false
set_option linter.unusedSimpArgs false
namespace Go.Proofs.YtjalgpioklcbfaaGreatDoor
open Go.RowKit Go.Lib

theorem four_sizes {line a b c d : ByteArray} (h : splitS 32 line = [a, b, c, d]) : a.size ≤ line.size ∧ b.size ≤ line.size ∧ c.size ≤ line.size ∧ d.size ≤ line.size := by
 have h1 := congrArg List.length (four_data h)
 simp only [List.length_append, List.length_cons, data_len] at h1
 omega
theorem sl_strs4 {w : World} {lo hi n k : Nat} {A : Option Addr} {a b c d : ByteArray} (h : Sl w lo hi 9 1 A n k (strs [a, b, c, d])) : n = 4 ∧ ∃ g, A = some ⟨g, 0, none⟩ ∧ w.cell? ⟨g, 0, none⟩ = some (.string a) ∧ w.cell? ⟨g, 1, none⟩ = some (.string b) ∧ w.cell? ⟨g, 2, none⟩ = some (.string c) ∧ w.cell? ⟨g, 3, none⟩ = some (.string d) := by
 have hn := h.len
 simp [strs] at hn
 subst hn
 obtain ⟨g, rfl, _, _, _⟩ := h.lt (by omega)
 exact ⟨rfl, g, rfl, h.cellAt 0 (by omega), h.cellAt 1 (by omega), h.cellAt 2 (by omega), h.cellAt 3 (by omega)⟩
theorem readN_fst {s : List UInt8} (h : isDec s = true) : (readN s).1 = numS s := by rw [readN_yes h]
set_option maxHeartbeats 4000000 in
set_option maxRecDepth 100000 in
theorem readLine_any (s : ByteArray) (m : Int) (w : World) (hs : s.size ≤ 1048576) (hm : w.cell? ⟨1, 0, none⟩ = some (.int .i64 m)) (ht : TabP w) (hv : SynP w) :
  Calls Tryz.prog 161 #[.string s] w fun e w' => ∃ (x : En) (st : Int) (b : Bool), e = .returned (.tuple #[.agg #[.int .i64 x.day, .string x.what, .int .i64 x.val], .int .i64 st, .bool b]) ∧ (b = true → lineF s = some (x, st)) ∧ (b = false → lineF s = none) ∧ Below w.heap.size w w' := by
 have HT := Lib.hid ht
 have HV := Lib.hid hv
 have hw0 : (w.alloc (.cells #[.int .i64 0, .string ⟨#[]⟩, .int .i64 0] 145)).cell? ⟨1, 0, none⟩ = some (.int .i64 m) := cell_on ((Below.refl _ _).alloc (Nat.le_refl _) _) hm
 have b0 : Below w.heap.size w (w.alloc (.cells #[.int .i64 0, .string ⟨#[]⟩, .int .i64 0] 145)) := (Below.refl _ _).alloc (Nat.le_refl _) _
 have y0 := Blk.new w 145 #[.int .i64 0, .string ⟨#[]⟩, .int .i64 0]
 clear ht hv
 by_cases h4 : (splitS 32 s).length = 4
 ·obtain ⟨a, b, c, d, he⟩ := four_of h4
  obtain ⟨za, zb, zc, zd⟩ := four_sizes he
  rcases d1 : isDec a.data.toList with _ | _
  ·have r1 : (readN a.data.toList).2 = false := by rw [readN_no d1]
   obtain ⟨q3, r3⟩ : ∃ v, (readN c.data.toList).2 = v := ⟨_, rfl⟩
   obtain ⟨q4, r4⟩ : ∃ v, (readN d.data.toList).2 = v := ⟨_, rfl⟩
   have HO := Lib.hid (show lineF s = none by rw [lineF_four he]; exact wordsF_no1 d1)
   go_enter Tryz.func161, Tryz.ntmps161
   go_wp2_with fail
   refine (strSplit_any s 32 m _ hs hw0).mono ?_
   rintro e w1 ⟨A, n, k, rfl, s1, b1⟩
   have y1 := y0.on b1
   have HB1 := Lib.hid (bnext b0 b1 (Nat.le_refl _))
   clear b1 b0 hw0 hm
   rw [he] at s1
   obtain ⟨rfl, g, rfl, c0, c1, c2, c3⟩ := sl_strs4 s1
   clear s1
   go_wp2_with fail
   refine (readDecimal_any a _ (by omega) (tabUp HT.out HB1.out) (synUp HV.out HB1.out)).mono ?_
   rintro e w2 ⟨rfl, b2⟩
   replace c1 := cell_on b2 c1
   replace c2 := cell_on b2 c2
   replace c3 := cell_on b2 c3
   have y2 := y1.on b2
   have HB2 := Lib.hid (bnext HB1.out b2 (Nat.le_refl _))
   clear b2 c0 y1
   go_wp2_with fail
   refine (readDecimal_any c _ (by omega) (tabUp HT.out HB2.out) (synUp HV.out HB2.out)).mono ?_
   rintro e w3 ⟨rfl, b3⟩
   replace c1 := cell_on b3 c1
   replace c3 := cell_on b3 c3
   have y3 := y2.on b3
   have HB3 := Lib.hid (bnext HB2.out b3 (Nat.le_refl _))
   clear b3 c2 y2
   go_wp2_with fail
   refine (readDecimal_any d _ (by omega) (tabUp HT.out HB3.out) (synUp HV.out HB3.out)).mono ?_
   rintro e w4 ⟨rfl, b4⟩
   replace c1 := cell_on b4 c1
   have y4 := y3.on b4
   have HB4 := Lib.hid (bnext HB3.out b4 (Nat.le_refl _))
   clear b4 c3 y3
   have x1 := readN_bd a.data.toList
   have x3 := readN_bd c.data.toList
   obtain ⟨n1, hn1⟩ : ∃ v, (readN a.data.toList).1 = v := ⟨_, rfl⟩
   obtain ⟨n3, hn3⟩ : ∃ v, (readN c.data.toList).1 = v := ⟨_, rfl⟩
   obtain ⟨n4, hn4⟩ : ∃ v, (readN d.data.toList).1 = v := ⟨_, rfl⟩
   simp only [hn1, hn3, hn4, r1, r3, r4] at x1 x3 ⊢
   have HN1 := Lib.hid hn1
   have HN3 := Lib.hid hn3
   have HN4 := Lib.hid hn4
   clear hn1 hn3 hn4
   go_wp2_with fail
   obtain ⟨wq, hwq⟩ : ∃ y, w4.alloc (.cells #[.int .i64 n1, .string b, .int .i64 n3] 145) = y := ⟨_, rfl⟩
   have bq : Below w4.heap.size w4 wq := by rw [← hwq]; exact (Below.refl _ _).alloc (Nat.le_refl _) _
   have yq : Blk wq w4.heap.size 145 #[.int .i64 n1, .string b, .int .i64 n3] := by rw [← hwq]; exact Blk.new _ _ _
   rw [hwq]
   clear hwq
   have yr := y4.on bq
   have HQ := Lib.hid (bnext HB4.out bq (Nat.le_refl _))
   have hne : w4.heap.size ≠ w.heap.size := by have := y4.lt; omega
   clear bq c1 y4
   go_wp2_with fail
   refine wp_region_held_drew (S := (fun W => Below w.heap.size w W ∧ Blk W w4.heap.size 145 #[.int .i64 n1, .string b, .int .i64 n3] ∧ ∃ v0 v1 v2, Blk W w.heap.size 145 #[v0, v1, v2])) (by kernel_rfl) ?_ (fun hHeld => ?_)
   ·exact ⟨HQ.out.drew, yq.drew, ⟨_, _, _, yr.drew⟩⟩
   refine tk 0 rfl ?_ ?_ ?_
   rotate_left
   ·intro w hSw; (try dsimp only at hSw); (have e0 := hSw.2.1.cellAt 0 (by simp)); (have e1 := hSw.2.1.cellAt 1 (by simp)); (have e2 := hSw.2.1.cellAt 2 (by simp)); go_simp; try with_reducible rfl
   try simp only [Act.put, ly]
   refine tk 1 rfl ?_ ?_ ?_
   rotate_left
   ·intro w _; go_simp; try with_reducible rfl
   try simp only [Act.put, ly]
   refine tk 2 rfl ?_ ?_ ?_
   rotate_left
   ·intro w _; go_simp; try with_reducible rfl
   try simp only [Act.put, ly]
   refine tk 3 rfl ?_ ?_ ?_
   rotate_left
   ·intro w _; go_simp; try with_reducible rfl
   try simp only [Act.put, ly]
   refine tu 4 rfl ?_
   try simp only [Act.put, ly]
   refine tk 5 rfl ?_ ?_ ?_
   rotate_left
   ·intro w _; go_simp; try with_reducible rfl
   try simp only [Act.put, ly]
   refine tk 6 rfl ?_ ?_ ?_
   rotate_left
   ·intro w _; go_simp; try with_reducible rfl
   try simp only [Act.put, ly]
   refine tu 7 rfl ?_
   try simp only [Act.put, ly]
   refine tk 8 rfl ?_ ?_ ?_
   rotate_left
   ·intro w _; go_simp; try with_reducible rfl
   try simp only [Act.put, ly]
   refine tk 9 rfl ?_ ?_ ?_
   rotate_left
   ·intro w _; go_simp; try with_reducible rfl
   try simp only [Act.put, ly]
   refine tu 10 rfl ?_
   try simp only [Act.put, ly]
   refine tu 11 rfl ?_
   try simp only [Act.put, ly]
   refine tk 12 rfl ?_ ?_ ?_
   rotate_left
   ·intro w _; go_simp; try with_reducible rfl
   try simp only [Act.put, ly]
   refine wpAnyH_ready (rs := [13]) (by kernel_rfl) (by simp) ?_
   refine AllReadyH.cons rfl (fun K hK => ?_) AllReadyH.nil
   obtain ⟨v0, v1, v2, hv⟩ := hHeld.2.2
   have hc0 := hv.cellAt 0 (by simp)
   have hc1 := hv.cellAt 1 (by simp)
   have hc2 := hv.cellAt 2 (by simp)
   have hf0 := hv.frozen 0
   have hf1 := hv.frozen 1
   have hf2 := hv.frozen 2
   (try simp only [World.cell?_drew, World.frozen?_drew] at hc0 hc1 hc2 hf0 hf1 hf2)
   go_simp
   refine hK.out _ _ ?_ (fun hNew => ?_)
   ·exact ⟨((hHeld.1.setCell (Nat.le_refl _) _).setCell (Nat.le_refl _) _).setCell (Nat.le_refl _) _, ((hHeld.2.1.far hne _).far hne _).far hne _, by obtain ⟨v0, v1, v2, hv⟩ := hHeld.2.2; exact ⟨_, _, _, ((hv.set_ 0 _).set_ 1 _).set_ 2 _⟩⟩
   clear hK K hHeld
   have hHeld := hNew
   clear hNew
   try simp only [Act.put, ly]
   refine tk 14 rfl ?_ ?_ ?_
   rotate_left
   ·intro w _; go_simp; try with_reducible rfl
   try simp only [Act.put, ly]
   refine tk 15 rfl ?_ ?_ ?_
   rotate_left
   ·intro w _; go_simp; try with_reducible rfl
   try simp only [Act.put, ly]
   refine wpAnyH_done (by kernel_rfl) ?_ _
   go_wp2
   exact bodyPost_ret (v := .tuple #[.agg #[.int .i64 n1, .string b, .int .i64 n3], .int .i64 n4, .bool false]) (by simp [results, Tryz.results161, go_sem, hc0, hc1, hc2]) rfl ⟨⟨n1, b, n3⟩, n4, false, rfl, (fun h => by cases h), (fun _ => HO.out), hHeld.1⟩
  ·have r1 : (readN a.data.toList).2 = true := by rw [readN_yes d1]
   rcases d3 : isDec c.data.toList with _ | _
   ·have r3 : (readN c.data.toList).2 = false := by rw [readN_no d3]
    obtain ⟨q4, r4⟩ : ∃ v, (readN d.data.toList).2 = v := ⟨_, rfl⟩
    have HO := Lib.hid (show lineF s = none by rw [lineF_four he]; exact wordsF_no2 d3)
    go_enter Tryz.func161, Tryz.ntmps161
    go_wp2_with fail
    refine (strSplit_any s 32 m _ hs hw0).mono ?_
    rintro e w1 ⟨A, n, k, rfl, s1, b1⟩
    have y1 := y0.on b1
    have HB1 := Lib.hid (bnext b0 b1 (Nat.le_refl _))
    clear b1 b0 hw0 hm
    rw [he] at s1
    obtain ⟨rfl, g, rfl, c0, c1, c2, c3⟩ := sl_strs4 s1
    clear s1
    go_wp2_with fail
    refine (readDecimal_any a _ (by omega) (tabUp HT.out HB1.out) (synUp HV.out HB1.out)).mono ?_
    rintro e w2 ⟨rfl, b2⟩
    replace c1 := cell_on b2 c1
    replace c2 := cell_on b2 c2
    replace c3 := cell_on b2 c3
    have y2 := y1.on b2
    have HB2 := Lib.hid (bnext HB1.out b2 (Nat.le_refl _))
    clear b2 c0 y1
    go_wp2_with fail
    refine (readDecimal_any c _ (by omega) (tabUp HT.out HB2.out) (synUp HV.out HB2.out)).mono ?_
    rintro e w3 ⟨rfl, b3⟩
    replace c1 := cell_on b3 c1
    replace c3 := cell_on b3 c3
    have y3 := y2.on b3
    have HB3 := Lib.hid (bnext HB2.out b3 (Nat.le_refl _))
    clear b3 c2 y2
    go_wp2_with fail
    refine (readDecimal_any d _ (by omega) (tabUp HT.out HB3.out) (synUp HV.out HB3.out)).mono ?_
    rintro e w4 ⟨rfl, b4⟩
    replace c1 := cell_on b4 c1
    have y4 := y3.on b4
    have HB4 := Lib.hid (bnext HB3.out b4 (Nat.le_refl _))
    clear b4 c3 y3
    have x1 := readN_bd a.data.toList
    have x3 := readN_bd c.data.toList
    obtain ⟨n1, hn1⟩ : ∃ v, (readN a.data.toList).1 = v := ⟨_, rfl⟩
    obtain ⟨n3, hn3⟩ : ∃ v, (readN c.data.toList).1 = v := ⟨_, rfl⟩
    obtain ⟨n4, hn4⟩ : ∃ v, (readN d.data.toList).1 = v := ⟨_, rfl⟩
    simp only [hn1, hn3, hn4, r1, r3, r4] at x1 x3 ⊢
    have HN1 := Lib.hid hn1
    have HN3 := Lib.hid hn3
    have HN4 := Lib.hid hn4
    clear hn1 hn3 hn4
    go_wp2_with fail
    obtain ⟨wq, hwq⟩ : ∃ y, w4.alloc (.cells #[.int .i64 n1, .string b, .int .i64 n3] 145) = y := ⟨_, rfl⟩
    have bq : Below w4.heap.size w4 wq := by rw [← hwq]; exact (Below.refl _ _).alloc (Nat.le_refl _) _
    have yq : Blk wq w4.heap.size 145 #[.int .i64 n1, .string b, .int .i64 n3] := by rw [← hwq]; exact Blk.new _ _ _
    rw [hwq]
    clear hwq
    have yr := y4.on bq
    have HQ := Lib.hid (bnext HB4.out bq (Nat.le_refl _))
    have hne : w4.heap.size ≠ w.heap.size := by have := y4.lt; omega
    clear bq c1 y4
    go_wp2_with fail
    refine wp_region_held_drew (S := (fun W => Below w.heap.size w W ∧ Blk W w4.heap.size 145 #[.int .i64 n1, .string b, .int .i64 n3] ∧ ∃ v0 v1 v2, Blk W w.heap.size 145 #[v0, v1, v2])) (by kernel_rfl) ?_ (fun hHeld => ?_)
    ·exact ⟨HQ.out.drew, yq.drew, ⟨_, _, _, yr.drew⟩⟩
    refine tk 0 rfl ?_ ?_ ?_
    rotate_left
    ·intro w hSw; (try dsimp only at hSw); (have e0 := hSw.2.1.cellAt 0 (by simp)); (have e1 := hSw.2.1.cellAt 1 (by simp)); (have e2 := hSw.2.1.cellAt 2 (by simp)); go_simp; try with_reducible rfl
    try simp only [Act.put, ly]
    refine tk 1 rfl ?_ ?_ ?_
    rotate_left
    ·intro w _; go_simp; try with_reducible rfl
    try simp only [Act.put, ly]
    refine tk 2 rfl ?_ ?_ ?_
    rotate_left
    ·intro w _; go_simp; try with_reducible rfl
    try simp only [Act.put, ly]
    refine tk 3 rfl ?_ ?_ ?_
    rotate_left
    ·intro w _; go_simp; try with_reducible rfl
    try simp only [Act.put, ly]
    refine tk 4 rfl ?_ ?_ ?_
    rotate_left
    ·intro w _; go_simp; try with_reducible rfl
    try simp only [Act.put, ly]
    refine tk 5 rfl ?_ ?_ ?_
    rotate_left
    ·intro w _; go_simp; try with_reducible rfl
    try simp only [Act.put, ly]
    refine tk 6 rfl ?_ ?_ ?_
    rotate_left
    ·intro w _; go_simp; try with_reducible rfl
    try simp only [Act.put, ly]
    refine tu 7 rfl ?_
    try simp only [Act.put, ly]
    refine tk 8 rfl ?_ ?_ ?_
    rotate_left
    ·intro w _; go_simp; try with_reducible rfl
    try simp only [Act.put, ly]
    refine tk 9 rfl ?_ ?_ ?_
    rotate_left
    ·intro w _; go_simp; try with_reducible rfl
    try simp only [Act.put, ly]
    refine tu 10 rfl ?_
    try simp only [Act.put, ly]
    refine tu 11 rfl ?_
    try simp only [Act.put, ly]
    refine tk 12 rfl ?_ ?_ ?_
    rotate_left
    ·intro w _; go_simp; try with_reducible rfl
    try simp only [Act.put, ly]
    refine wpAnyH_ready (rs := [13]) (by kernel_rfl) (by simp) ?_
    refine AllReadyH.cons rfl (fun K hK => ?_) AllReadyH.nil
    obtain ⟨v0, v1, v2, hv⟩ := hHeld.2.2
    have hc0 := hv.cellAt 0 (by simp)
    have hc1 := hv.cellAt 1 (by simp)
    have hc2 := hv.cellAt 2 (by simp)
    have hf0 := hv.frozen 0
    have hf1 := hv.frozen 1
    have hf2 := hv.frozen 2
    (try simp only [World.cell?_drew, World.frozen?_drew] at hc0 hc1 hc2 hf0 hf1 hf2)
    go_simp
    refine hK.out _ _ ?_ (fun hNew => ?_)
    ·exact ⟨((hHeld.1.setCell (Nat.le_refl _) _).setCell (Nat.le_refl _) _).setCell (Nat.le_refl _) _, ((hHeld.2.1.far hne _).far hne _).far hne _, by obtain ⟨v0, v1, v2, hv⟩ := hHeld.2.2; exact ⟨_, _, _, ((hv.set_ 0 _).set_ 1 _).set_ 2 _⟩⟩
    clear hK K hHeld
    have hHeld := hNew
    clear hNew
    try simp only [Act.put, ly]
    refine tk 14 rfl ?_ ?_ ?_
    rotate_left
    ·intro w _; go_simp; try with_reducible rfl
    try simp only [Act.put, ly]
    refine tk 15 rfl ?_ ?_ ?_
    rotate_left
    ·intro w _; go_simp; try with_reducible rfl
    try simp only [Act.put, ly]
    refine wpAnyH_done (by kernel_rfl) ?_ _
    go_wp2
    exact bodyPost_ret (v := .tuple #[.agg #[.int .i64 n1, .string b, .int .i64 n3], .int .i64 n4, .bool false]) (by simp [results, Tryz.results161, go_sem, hc0, hc1, hc2]) rfl ⟨⟨n1, b, n3⟩, n4, false, rfl, (fun h => by cases h), (fun _ => HO.out), hHeld.1⟩
   ·have r3 : (readN c.data.toList).2 = true := by rw [readN_yes d3]
    rcases d4 : isDec d.data.toList with _ | _
    ·have r4 : (readN d.data.toList).2 = false := by rw [readN_no d4]
     have HO := Lib.hid (show lineF s = none by rw [lineF_four he]; exact wordsF_no3 d4)
     go_enter Tryz.func161, Tryz.ntmps161
     go_wp2_with fail
     refine (strSplit_any s 32 m _ hs hw0).mono ?_
     rintro e w1 ⟨A, n, k, rfl, s1, b1⟩
     have y1 := y0.on b1
     have HB1 := Lib.hid (bnext b0 b1 (Nat.le_refl _))
     clear b1 b0 hw0 hm
     rw [he] at s1
     obtain ⟨rfl, g, rfl, c0, c1, c2, c3⟩ := sl_strs4 s1
     clear s1
     go_wp2_with fail
     refine (readDecimal_any a _ (by omega) (tabUp HT.out HB1.out) (synUp HV.out HB1.out)).mono ?_
     rintro e w2 ⟨rfl, b2⟩
     replace c1 := cell_on b2 c1
     replace c2 := cell_on b2 c2
     replace c3 := cell_on b2 c3
     have y2 := y1.on b2
     have HB2 := Lib.hid (bnext HB1.out b2 (Nat.le_refl _))
     clear b2 c0 y1
     go_wp2_with fail
     refine (readDecimal_any c _ (by omega) (tabUp HT.out HB2.out) (synUp HV.out HB2.out)).mono ?_
     rintro e w3 ⟨rfl, b3⟩
     replace c1 := cell_on b3 c1
     replace c3 := cell_on b3 c3
     have y3 := y2.on b3
     have HB3 := Lib.hid (bnext HB2.out b3 (Nat.le_refl _))
     clear b3 c2 y2
     go_wp2_with fail
     refine (readDecimal_any d _ (by omega) (tabUp HT.out HB3.out) (synUp HV.out HB3.out)).mono ?_
     rintro e w4 ⟨rfl, b4⟩
     replace c1 := cell_on b4 c1
     have y4 := y3.on b4
     have HB4 := Lib.hid (bnext HB3.out b4 (Nat.le_refl _))
     clear b4 c3 y3
     have x1 := readN_bd a.data.toList
     have x3 := readN_bd c.data.toList
     obtain ⟨n1, hn1⟩ : ∃ v, (readN a.data.toList).1 = v := ⟨_, rfl⟩
     obtain ⟨n3, hn3⟩ : ∃ v, (readN c.data.toList).1 = v := ⟨_, rfl⟩
     obtain ⟨n4, hn4⟩ : ∃ v, (readN d.data.toList).1 = v := ⟨_, rfl⟩
     simp only [hn1, hn3, hn4, r1, r3, r4] at x1 x3 ⊢
     have HN1 := Lib.hid hn1
     have HN3 := Lib.hid hn3
     have HN4 := Lib.hid hn4
     clear hn1 hn3 hn4
     go_wp2_with fail
     obtain ⟨wq, hwq⟩ : ∃ y, w4.alloc (.cells #[.int .i64 n1, .string b, .int .i64 n3] 145) = y := ⟨_, rfl⟩
     have bq : Below w4.heap.size w4 wq := by rw [← hwq]; exact (Below.refl _ _).alloc (Nat.le_refl _) _
     have yq : Blk wq w4.heap.size 145 #[.int .i64 n1, .string b, .int .i64 n3] := by rw [← hwq]; exact Blk.new _ _ _
     rw [hwq]
     clear hwq
     have yr := y4.on bq
     have HQ := Lib.hid (bnext HB4.out bq (Nat.le_refl _))
     have hne : w4.heap.size ≠ w.heap.size := by have := y4.lt; omega
     clear bq c1 y4
     go_wp2_with fail
     refine wp_region_held_drew (S := (fun W => Below w.heap.size w W ∧ Blk W w4.heap.size 145 #[.int .i64 n1, .string b, .int .i64 n3] ∧ ∃ v0 v1 v2, Blk W w.heap.size 145 #[v0, v1, v2])) (by kernel_rfl) ?_ (fun hHeld => ?_)
     ·exact ⟨HQ.out.drew, yq.drew, ⟨_, _, _, yr.drew⟩⟩
     refine tk 0 rfl ?_ ?_ ?_
     rotate_left
     ·intro w hSw; (try dsimp only at hSw); (have e0 := hSw.2.1.cellAt 0 (by simp)); (have e1 := hSw.2.1.cellAt 1 (by simp)); (have e2 := hSw.2.1.cellAt 2 (by simp)); go_simp; try with_reducible rfl
     try simp only [Act.put, ly]
     refine tk 1 rfl ?_ ?_ ?_
     rotate_left
     ·intro w _; go_simp; try with_reducible rfl
     try simp only [Act.put, ly]
     refine tk 2 rfl ?_ ?_ ?_
     rotate_left
     ·intro w _; go_simp; try with_reducible rfl
     try simp only [Act.put, ly]
     refine tk 3 rfl ?_ ?_ ?_
     rotate_left
     ·intro w _; go_simp; try with_reducible rfl
     try simp only [Act.put, ly]
     refine tk 4 rfl ?_ ?_ ?_
     rotate_left
     ·intro w _; go_simp; try with_reducible rfl
     try simp only [Act.put, ly]
     refine tk 5 rfl ?_ ?_ ?_
     rotate_left
     ·intro w _; go_simp; try with_reducible rfl
     try simp only [Act.put, ly]
     refine tk 6 rfl ?_ ?_ ?_
     rotate_left
     ·intro w _; go_simp; try with_reducible rfl
     try simp only [Act.put, ly]
     refine tk 7 rfl ?_ ?_ ?_
     rotate_left
     ·intro w _; go_simp; try with_reducible rfl
     try simp only [Act.put, ly]
     refine tk 8 rfl ?_ ?_ ?_
     rotate_left
     ·intro w _; go_simp; try with_reducible rfl
     try simp only [Act.put, ly]
     refine tk 9 rfl ?_ ?_ ?_
     rotate_left
     ·intro w _; go_simp; try with_reducible rfl
     try simp only [Act.put, ly]
     refine tu 10 rfl ?_
     try simp only [Act.put, ly]
     refine tu 11 rfl ?_
     try simp only [Act.put, ly]
     refine tk 12 rfl ?_ ?_ ?_
     rotate_left
     ·intro w _; go_simp; try with_reducible rfl
     try simp only [Act.put, ly]
     refine wpAnyH_ready (rs := [13]) (by kernel_rfl) (by simp) ?_
     refine AllReadyH.cons rfl (fun K hK => ?_) AllReadyH.nil
     obtain ⟨v0, v1, v2, hv⟩ := hHeld.2.2
     have hc0 := hv.cellAt 0 (by simp)
     have hc1 := hv.cellAt 1 (by simp)
     have hc2 := hv.cellAt 2 (by simp)
     have hf0 := hv.frozen 0
     have hf1 := hv.frozen 1
     have hf2 := hv.frozen 2
     (try simp only [World.cell?_drew, World.frozen?_drew] at hc0 hc1 hc2 hf0 hf1 hf2)
     go_simp
     refine hK.out _ _ ?_ (fun hNew => ?_)
     ·exact ⟨((hHeld.1.setCell (Nat.le_refl _) _).setCell (Nat.le_refl _) _).setCell (Nat.le_refl _) _, ((hHeld.2.1.far hne _).far hne _).far hne _, by obtain ⟨v0, v1, v2, hv⟩ := hHeld.2.2; exact ⟨_, _, _, ((hv.set_ 0 _).set_ 1 _).set_ 2 _⟩⟩
     clear hK K hHeld
     have hHeld := hNew
     clear hNew
     try simp only [Act.put, ly]
     refine tk 14 rfl ?_ ?_ ?_
     rotate_left
     ·intro w _; go_simp; try with_reducible rfl
     try simp only [Act.put, ly]
     refine tk 15 rfl ?_ ?_ ?_
     rotate_left
     ·intro w _; go_simp; try with_reducible rfl
     try simp only [Act.put, ly]
     refine wpAnyH_done (by kernel_rfl) ?_ _
     go_wp2
     exact bodyPost_ret (v := .tuple #[.agg #[.int .i64 n1, .string b, .int .i64 n3], .int .i64 n4, .bool false]) (by simp [results, Tryz.results161, go_sem, hc0, hc1, hc2]) rfl ⟨⟨n1, b, n3⟩, n4, false, rfl, (fun h => by cases h), (fun _ => HO.out), hHeld.1⟩
    ·have r4 : (readN d.data.toList).2 = true := by rw [readN_yes d4]
     have HO := Lib.hid (show okEn ⟨numS a.data.toList, b, numS c.data.toList⟩ = true → lineF s = some (⟨numS a.data.toList, b, numS c.data.toList⟩, numS d.data.toList) from fun h => by rw [lineF_four he]; exact wordsF_yes d1 d3 d4 h)
     have HP := Lib.hid (show okEn ⟨numS a.data.toList, b, numS c.data.toList⟩ = false → lineF s = none from fun h => by rw [lineF_four he]; exact wordsF_no4 h)
     have E1 := Lib.hid (readN_fst d1)
     have E3 := Lib.hid (readN_fst d3)
     have E4 := Lib.hid (readN_fst d4)
     go_enter Tryz.func161, Tryz.ntmps161
     go_wp2_with fail
     refine (strSplit_any s 32 m _ hs hw0).mono ?_
     rintro e w1 ⟨A, n, k, rfl, s1, b1⟩
     have y1 := y0.on b1
     have HB1 := Lib.hid (bnext b0 b1 (Nat.le_refl _))
     clear b1 b0 hw0 hm
     rw [he] at s1
     obtain ⟨rfl, g, rfl, c0, c1, c2, c3⟩ := sl_strs4 s1
     clear s1
     go_wp2_with fail
     refine (readDecimal_any a _ (by omega) (tabUp HT.out HB1.out) (synUp HV.out HB1.out)).mono ?_
     rintro e w2 ⟨rfl, b2⟩
     replace c1 := cell_on b2 c1
     replace c2 := cell_on b2 c2
     replace c3 := cell_on b2 c3
     have y2 := y1.on b2
     have HB2 := Lib.hid (bnext HB1.out b2 (Nat.le_refl _))
     clear b2 c0 y1
     go_wp2_with fail
     refine (readDecimal_any c _ (by omega) (tabUp HT.out HB2.out) (synUp HV.out HB2.out)).mono ?_
     rintro e w3 ⟨rfl, b3⟩
     replace c1 := cell_on b3 c1
     replace c3 := cell_on b3 c3
     have y3 := y2.on b3
     have HB3 := Lib.hid (bnext HB2.out b3 (Nat.le_refl _))
     clear b3 c2 y2
     go_wp2_with fail
     refine (readDecimal_any d _ (by omega) (tabUp HT.out HB3.out) (synUp HV.out HB3.out)).mono ?_
     rintro e w4 ⟨rfl, b4⟩
     replace c1 := cell_on b4 c1
     have y4 := y3.on b4
     have HB4 := Lib.hid (bnext HB3.out b4 (Nat.le_refl _))
     clear b4 c3 y3
     have x1 := readN_bd a.data.toList
     have x3 := readN_bd c.data.toList
     obtain ⟨n1, hn1⟩ : ∃ v, (readN a.data.toList).1 = v := ⟨_, rfl⟩
     obtain ⟨n3, hn3⟩ : ∃ v, (readN c.data.toList).1 = v := ⟨_, rfl⟩
     obtain ⟨n4, hn4⟩ : ∃ v, (readN d.data.toList).1 = v := ⟨_, rfl⟩
     simp only [hn1, hn3, hn4, r1, r3, r4] at x1 x3 ⊢
     have HN1 := Lib.hid hn1
     have HN3 := Lib.hid hn3
     have HN4 := Lib.hid hn4
     clear hn1 hn3 hn4
     replace HO := Lib.hid (show okEn ⟨n1, b, n3⟩ = true → lineF s = some (⟨n1, b, n3⟩, n4) by rw [← HN1.out, ← HN3.out, ← HN4.out, E1.out, E3.out, E4.out]; exact HO.out)
     replace HP := Lib.hid (show okEn ⟨n1, b, n3⟩ = false → lineF s = none by rw [← HN1.out, ← HN3.out, E1.out, E3.out]; exact HP.out)
     have hxg : En.good ⟨n1, b, n3⟩ := ⟨⟨by simp only; omega, by simp only; omega⟩, by simp only; omega, ⟨by simp only; omega, by simp only; omega⟩⟩
     have hxs : En.small ⟨n1, b, n3⟩ := by unfold En.small; simp only; omega
     clear E1 E3 E4
     go_wp2_with fail
     obtain ⟨wq, hwq⟩ : ∃ y, w4.alloc (.cells #[.int .i64 n1, .string b, .int .i64 n3] 145) = y := ⟨_, rfl⟩
     have bq : Below w4.heap.size w4 wq := by rw [← hwq]; exact (Below.refl _ _).alloc (Nat.le_refl _) _
     have yq : Blk wq w4.heap.size 145 #[.int .i64 n1, .string b, .int .i64 n3] := by rw [← hwq]; exact Blk.new _ _ _
     rw [hwq]
     clear hwq
     have yr := y4.on bq
     have HQ := Lib.hid (bnext HB4.out bq (Nat.le_refl _))
     have hne : w4.heap.size ≠ w.heap.size := by have := y4.lt; omega
     clear bq c1 y4
     go_wp2_with fail
     refine wp_region_held_drew (S := (fun W => Below w.heap.size w W ∧ Blk W w4.heap.size 145 #[.int .i64 n1, .string b, .int .i64 n3] ∧ ∃ v0 v1 v2, Blk W w.heap.size 145 #[v0, v1, v2])) (by kernel_rfl) ?_ (fun hHeld => ?_)
     ·exact ⟨HQ.out.drew, yq.drew, ⟨_, _, _, yr.drew⟩⟩
     refine tk 0 rfl ?_ ?_ ?_
     rotate_left
     ·intro w hSw; (try dsimp only at hSw); (have e0 := hSw.2.1.cellAt 0 (by simp)); (have e1 := hSw.2.1.cellAt 1 (by simp)); (have e2 := hSw.2.1.cellAt 2 (by simp)); go_simp; try with_reducible rfl
     try simp only [Act.put, ly]
     refine tk 1 rfl ?_ ?_ ?_
     rotate_left
     ·intro w _; go_simp; try with_reducible rfl
     try simp only [Act.put, ly]
     refine tk 2 rfl ?_ ?_ ?_
     rotate_left
     ·intro w _; go_simp; try with_reducible rfl
     try simp only [Act.put, ly]
     refine tk 3 rfl ?_ ?_ ?_
     rotate_left
     ·intro w _; go_simp; try with_reducible rfl
     try simp only [Act.put, ly]
     refine tk 4 rfl ?_ ?_ ?_
     rotate_left
     ·intro w _; go_simp; try with_reducible rfl
     try simp only [Act.put, ly]
     refine tk 5 rfl ?_ ?_ ?_
     rotate_left
     ·intro w _; go_simp; try with_reducible rfl
     try simp only [Act.put, ly]
     refine tk 6 rfl ?_ ?_ ?_
     rotate_left
     ·intro w _; go_simp; try with_reducible rfl
     try simp only [Act.put, ly]
     refine tk 7 rfl ?_ ?_ ?_
     rotate_left
     ·intro w _; go_simp; try with_reducible rfl
     try simp only [Act.put, ly]
     refine tk 8 rfl ?_ ?_ ?_
     rotate_left
     ·intro w _; go_simp; try with_reducible rfl
     try simp only [Act.put, ly]
     refine tk 9 rfl ?_ ?_ ?_
     rotate_left
     ·intro w _; go_simp; try with_reducible rfl
     try simp only [Act.put, ly]
     refine tk 10 rfl ?_ ?_ ?_
     rotate_left
     ·intro w hSw; (try dsimp only at hSw); (have e0 := hSw.2.1.cellAt 0 (by simp)); (have e1 := hSw.2.1.cellAt 1 (by simp)); (have e2 := hSw.2.1.cellAt 2 (by simp)); go_simp; try with_reducible rfl
     try simp only [Act.put, ly]
     refine wpAnyH_ready (rs := [11]) (by kernel_rfl) (by simp) ?_
     refine AllReadyH.cons rfl (fun K hK => ?_) AllReadyH.nil
     go_simp
     go_at_call 223
     refine (implValidEntry_any ⟨n1, b, n3⟩ _ hxg hxs).mono ?_
     rintro e w5 ⟨rfl, b5⟩
     go_wp2_with fail
     refine hK.out _ _ ?_ (fun hNew => ?_)
     ·exact ⟨bnext hHeld.1 b5 (Nat.le_refl _), hHeld.2.1.on b5, by obtain ⟨v0, v1, v2, hv⟩ := hHeld.2.2; exact ⟨v0, v1, v2, hv.on b5⟩⟩
     clear hK K hHeld
     have hHeld := hNew
     clear hNew
     try simp only [Act.put, ly]
     refine tk 12 rfl ?_ ?_ ?_
     rotate_left
     ·intro w _; go_simp; try with_reducible rfl
     try simp only [Act.put, ly]
     refine wpAnyH_ready (rs := [13]) (by kernel_rfl) (by simp) ?_
     refine AllReadyH.cons rfl (fun K hK => ?_) AllReadyH.nil
     obtain ⟨v0, v1, v2, hv⟩ := hHeld.2.2
     have hc0 := hv.cellAt 0 (by simp)
     have hc1 := hv.cellAt 1 (by simp)
     have hc2 := hv.cellAt 2 (by simp)
     have hf0 := hv.frozen 0
     have hf1 := hv.frozen 1
     have hf2 := hv.frozen 2
     (try simp only [World.cell?_drew, World.frozen?_drew] at hc0 hc1 hc2 hf0 hf1 hf2)
     go_simp
     refine hK.out _ _ ?_ (fun hNew => ?_)
     ·exact ⟨((hHeld.1.setCell (Nat.le_refl _) _).setCell (Nat.le_refl _) _).setCell (Nat.le_refl _) _, ((hHeld.2.1.far hne _).far hne _).far hne _, by obtain ⟨v0, v1, v2, hv⟩ := hHeld.2.2; exact ⟨_, _, _, ((hv.set_ 0 _).set_ 1 _).set_ 2 _⟩⟩
     clear hK K hHeld
     have hHeld := hNew
     clear hNew
     try simp only [Act.put, ly]
     refine tk 14 rfl ?_ ?_ ?_
     rotate_left
     ·intro w _; go_simp; try with_reducible rfl
     try simp only [Act.put, ly]
     refine tk 15 rfl ?_ ?_ ?_
     rotate_left
     ·intro w _; go_simp; try with_reducible rfl
     try simp only [Act.put, ly]
     refine wpAnyH_done (by kernel_rfl) ?_ _
     go_wp2
     exact bodyPost_ret (v := .tuple #[.agg #[.int .i64 n1, .string b, .int .i64 n3], .int .i64 n4, .bool (okEn ⟨n1, b, n3⟩)]) (by simp [results, Tryz.results161, go_sem, hc0, hc1, hc2]) rfl ⟨⟨n1, b, n3⟩, n4, (okEn ⟨n1, b, n3⟩), rfl, HO.out, HP.out, hHeld.1⟩
 ·have HO := Lib.hid (lineF_other h4)
  go_enter Tryz.func161, Tryz.ntmps161
  go_wp2_with fail
  refine (strSplit_any s 32 m _ hs hw0).mono ?_
  rintro e w1 ⟨A, n, k, rfl, s1, b1⟩
  have y1 := y0.on b1
  have HB1 := Lib.hid (bnext b0 b1 (Nat.le_refl _))
  clear b1 b0 hw0 hm
  have hn := s1.len
  simp only [strs, List.length_map, Nat.mul_one] at hn
  have hn4 : ((n : Int) != 4) = true := by rw [bne_iff_ne]; omega
  have hc0 := y1.cellAt 0 (by simp)
  have hc1 := y1.cellAt 1 (by simp)
  have hc2 := y1.cellAt 2 (by simp)
  have hf0 := y1.frozen 0
  have hf1 := y1.frozen 1
  have hf2 := y1.frozen 2
  clear s1 y1
  go_wp2
  exact bodyPost_ret (v := .tuple #[.agg #[.int .i64 0, .string ⟨#[]⟩, .int .i64 0], .int .i64 0, .bool false]) (by simp [results, Tryz.results161, go_sem, hc0, hc1, hc2]) rfl ⟨⟨0, ⟨#[]⟩, 0⟩, 0, false, rfl, (fun h => by cases h), (fun _ => HO.out), ((HB1.out.setCell (Nat.le_refl _) _).setCell (Nat.le_refl _) _).setCell (Nat.le_refl _) _⟩
  
end Go.Proofs.YtjalgpioklcbfaaGreatDoor
