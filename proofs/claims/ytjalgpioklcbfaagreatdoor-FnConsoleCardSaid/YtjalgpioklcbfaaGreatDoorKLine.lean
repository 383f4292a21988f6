/- A line of a log, as the reference reads it. -/
import Derived.Test.YtjalgpioklcbfaaGreatDoorMgConsoleAG
import Derived.Test.YtjalgpioklcbfaaGreatDoorMgConsoleAA
import Derived.Test.YtjalgpioklcbfaaGreatDoorMgConsoleAH
import Derived.Test.YtjalgpioklcbfaaGreatDoorKRdL
import Derived.Test.YtjalgpioklcbfaaGreatDoorKRdLog
set_option linter.unusedVariables false
set_option linter.unusedSimpArgs false
namespace Go.Proofs.YtjalgpioklcbfaaGreatDoor
open Go.RowKit Go.Lib

set_option maxHeartbeats 4000000 in
set_option maxRecDepth 100000 in
theorem l27line_any (lo g : Nat) (s : ByteArray) (r : LogR) (w : World) (h : LRec lo g s w r) (hok : r.ok) (hat : r.at_ ≤ s.size) (hs : s.size ≤ 1048576) (hlow : lo ≤ w.heap.size) :
  Calls Tryz.prog 224 #[.pointer (some ⟨g, 0, none⟩)] w fun e w' => (∃ r', stepS s r = some r' ∧ e = .returned (.bool true) ∧ LRec lo g s w' r' ∧ Below lo w w') ∨ (stepS s r = none ∧ e = .returned (.bool false) ∧ LRec lo g s w' r ∧ Below lo w w') := by
 obtain ⟨A, n, d, yb, hsl, hne, hlg⟩ := h
 have hgw := yb.lt
 have hln : r.list.length = n := by have := hsl.len; rw [ens_length] at this; omega
 have hn1 : n ≤ 1048576 := by have := hok.len; omega
 have hs0 := hok.stamp0
 have hs1 := hok.stamp1
 have HOK := Lib.hid hok
 have HNE := Lib.hid hne
 have HSL := Lib.hid hsl
 clear hok hne hsl
 have o0 : w.cell? ⟨g, 0, none⟩ = some (.string s) := yb.cellAt 0 (by simp)
 have o1 : w.cell? ⟨g, 1, none⟩ = some (.int .i64 (r.at_ : Int)) := yb.cellAt 1 (by simp)
 have o2 : w.cell? ⟨g, 2, none⟩ = some (.int .i64 r.stamp) := yb.cellAt 2 (by simp)
 have o3 : w.cell? ⟨g, 3, none⟩ = some (.slice A n d) := yb.cellAt 3 (by simp)
 have hb0 : (0 : Int) ≤ (r.at_ : Int) := by omega
 have hb1 : (r.at_ : Int) ≤ (s.size : Int) := by omega
 go_enter Tryz.func224, Tryz.ntmps224
 go_wp2
 go_loop [3] (fun i => ∃ k : Nat, r.at_ ≤ k ∧ k ≤ s.size ∧ i = .int .i64 k ∧ (10 : UInt8) ∉ (s.extract r.at_ k).data.toList) (fun i => s.size - (RowKit.intOf i).toNat)
 case atStart => exact ⟨r.at_, Nat.le_refl _, hat, rfl, no_start s 10 r.at_⟩
 case round =>
  obtain ⟨k, hjk, hk, rfl, hno⟩ := hrel
  have HN := Lib.hid hno
  clear hno
  have hjki : (r.at_ : Int) ≤ (k : Int) := by omega
  have hki : (k : Int) ≤ (s.size : Int) := by omega
  have hk0 : (0 : Int) ≤ (k : Int) := by omega
  by_cases hlt : k < s.size
  ·have hlti : (k : Int) < (s.size : Int) := by omega
   by_cases hc : s[k] = 10
   ·have hq : ((s[k].toNat : Int) != 10) = false := by rw [hc]; rfl
    have hq2 : ((s[k].toNat : Int) == 10) = true := by rw [hc]; rfl
    have HST := Lib.hid (stepS_hit HN.out hjk hlt hc)
    have HEX := Lib.hid (extract_next hjk hlt hc)
    clear hc
    go_wp2_with fail
    refine wp_region_held_drew (S := (fun W => Below w.heap.size w W ∧ Blk W g 213 #[.string s, .int .i64 (r.at_ : Int), .int .i64 r.stamp, .slice A n d])) (by kernel_rfl) ?_ (fun hHeld => ?_)
    ·exact ⟨(Below.refl _ _).drew, yb.drew⟩
    refine tk 0 rfl ?_ ?_ ?_
    rotate_left
    ·intro w _; go_simp; try with_reducible rfl
    try simp only [Act.put, ly]
    refine tk 1 rfl ?_ ?_ ?_
    rotate_left
    ·intro w _; go_simp; try with_reducible rfl
    try simp only [Act.put, ly]
    refine tk 2 rfl ?_ ?_ ?_
    rotate_left
    ·intro w _; go_simp; try with_reducible rfl
    try simp only [Act.put, ly]
    refine tk 3 rfl ?_ ?_ ?_
    rotate_left
    ·intro w hSw; (try dsimp only at hSw); (have e0 := hSw.2.cellAt 0 (by simp)); (have e1 := hSw.2.cellAt 1 (by simp)); (have e2 := hSw.2.cellAt 2 (by simp)); (have e3 := hSw.2.cellAt 3 (by simp)); go_simp; try with_reducible rfl
    try simp only [Act.put, ly]
    refine tk 4 rfl ?_ ?_ ?_
    rotate_left
    ·intro w _; go_simp; try with_reducible rfl
    try simp only [Act.put, ly]
    refine tk 5 rfl ?_ ?_ ?_
    rotate_left
    ·intro w _; go_simp; try with_reducible rfl
    try simp only [Act.put, ly]
    refine tk 6 rfl ?_ ?_ ?_
    rotate_left
    ·intro w _; go_simp; try with_reducible rfl
    try simp only [Act.put, ly]
    refine tk 7 rfl ?_ ?_ ?_
    rotate_left
    ·intro w hSw; (try dsimp only at hSw); (have e0 := hSw.2.cellAt 0 (by simp)); (have e1 := hSw.2.cellAt 1 (by simp)); (have e2 := hSw.2.cellAt 2 (by simp)); (have e3 := hSw.2.cellAt 3 (by simp)); go_simp; try with_reducible rfl
    try simp only [Act.put, ly]
    refine tk 8 rfl ?_ ?_ ?_
    rotate_left
    ·intro w _; go_simp; try with_reducible rfl
    try simp only [Act.put, ly]
    refine tk 9 rfl ?_ ?_ ?_
    rotate_left
    ·intro w _; go_simp; try with_reducible rfl
    try simp only [Act.put, ly]
    refine wpAnyH_ready (rs := [10]) (by kernel_rfl) (by simp) ?_
    refine AllReadyH.cons rfl (fun K hK => ?_) AllReadyH.nil
    go_simp
    go_at_call 40
    refine (l01Split_any (s.extract r.at_ k) 32 _ (by rw [ByteArray.size_extract]; omega)).mono ?_
    rintro e w1 ⟨A1, m1, d1, rfl, s1, b1⟩
    go_wp2_with fail
    refine hK.out _ _ ?_ (fun hNew => ?_)
    ·exact ⟨bnext hHeld.1 b1 (Nat.le_refl _), hHeld.2.on b1⟩
    clear hK K hHeld
    have hHeld := hNew
    clear hNew
    try simp only [Act.put, ly]
    refine tk 11 rfl ?_ ?_ ?_
    rotate_left
    ·intro w _; go_simp; try with_reducible rfl
    try simp only [Act.put, ly]
    refine wpAnyH_done (by kernel_rfl) ?_ _
    have HB1 := Lib.hid hHeld.1
    have y1 := hHeld.2
    clear hHeld o0 o1 o2 o3
    obtain ⟨line, hline⟩ : ∃ y, s.extract r.at_ k = y := ⟨_, rfl⟩
    have hlsz : line.size ≤ 1048576 := by rw [← hline, ByteArray.size_extract]; omega
    have hlk : r.at_ + line.size = k := by rw [← hline, ByteArray.size_extract]; omega
    rw [hline] at HST HEX s1
    by_cases h4 : (splitS 32 line).length = 4
    ·obtain ⟨a, b, c, dd, he⟩ := four_of h4
     obtain ⟨za, zb, zc, zd⟩ := four_sizes he
     rw [he] at s1
     obtain ⟨rfl, sg, rfl, c0, c1, c2, c3⟩ := sl_strs4 s1
     clear s1 c3
     go_wp2_with fail
     refine (l01Number_any a _ (by omega)).mono ?_
     rintro e w2 ⟨rfl, b2⟩
     replace c1 := cell_on b2 c1
     replace c2 := cell_on b2 c2
     have y2 := y1.on b2
     have HB2 := Lib.hid (bnext HB1.out b2 (Nat.le_refl _))
     clear b2 c0 y1
     go_wp2_with fail
     refine (l01Number_any c _ (by omega)).mono ?_
     rintro e w3 ⟨rfl, b3⟩
     replace c1 := cell_on b3 c1
     have y3 := y2.on b3
     have HB3 := Lib.hid (bnext HB2.out b3 (Nat.le_refl _))
     clear b3 c2 y2
     have x1 := readN_bd a.data.toList
     have x3 := readN_bd c.data.toList
     obtain ⟨n1, hn1'⟩ : ∃ v, (readN a.data.toList).1 = v := ⟨_, rfl⟩
     obtain ⟨n3, hn3'⟩ : ∃ v, (readN c.data.toList).1 = v := ⟨_, rfl⟩
     have hxg : En.good ⟨n1, b, n3⟩ := ⟨⟨by simp only; omega, by simp only; omega⟩, by simp only; omega, ⟨by simp only; omega, by simp only; omega⟩⟩
     have hxs : En.small ⟨n1, b, n3⟩ := by unfold En.small; simp only; omega
     rcases d1 : isDec a.data.toList with _ | _
     ·have r1 : (readN a.data.toList).2 = false := by rw [readN_no d1]
      obtain ⟨q3, r3⟩ : ∃ v, (readN c.data.toList).2 = v := ⟨_, rfl⟩
      have HL := Lib.hid (show stepS s r = none by rw [HST.out]; exact stepF_four_no he (wordsF_no1 d1))
      simp only [hn1', hn3', r1, r3] at x1 x3 ⊢
      have HN1 := Lib.hid hn1'
      have HN3 := Lib.hid hn3'
      clear hn1' hn3' h4
      go_wp2_with fail
      obtain ⟨wq, hwq⟩ : ∃ y, w3.alloc (.cells #[.int .i64 n1, .string b, .int .i64 n3] 145) = y := ⟨_, rfl⟩
      have bq : Below w3.heap.size w3 wq := by rw [← hwq]; exact (Below.refl _ _).alloc (Nat.le_refl _) _
      have yx : Blk wq w3.heap.size 145 #[.int .i64 n1, .string b, .int .i64 n3] := by rw [← hwq]; exact Blk.new _ _ _
      rw [hwq]
      clear hwq
      have y4 := y3.on bq
      have HB4 := Lib.hid (bnext HB3.out bq (Nat.le_refl _))
      have hgb : g < w3.heap.size := y3.lt
      obtain ⟨wb, hwb⟩ : ∃ y, w3.heap.size = y := ⟨_, rfl⟩
      rw [hwb] at yx hgb ⊢
      have hwbw : w.heap.size ≤ wb := by have := HB3.out.size; omega
      clear bq c1 y3 hwb
      refine wp_region_held_drew (S := (fun W => Below w.heap.size w W ∧ Blk W g 213 #[.string s, .int .i64 (r.at_ : Int), .int .i64 r.stamp, .slice A n d] ∧ Blk W wb 145 #[.int .i64 n1, .string b, .int .i64 n3])) (by kernel_rfl) ?_ (fun hHeld => ?_)
      ·exact ⟨HB4.out.drew, y4.drew, yx.drew⟩
      refine tk 0 rfl ?_ ?_ ?_
      rotate_left
      ·intro w _; go_simp; try with_reducible rfl
      try simp only [Act.put, ly]
      refine tk 1 rfl ?_ ?_ ?_
      rotate_left
      ·intro w _; go_simp; try with_reducible rfl
      try simp only [Act.put, ly]
      refine tk 2 rfl ?_ ?_ ?_
      rotate_left
      ·intro w _; go_simp; try with_reducible rfl
      try simp only [Act.put, ly]
      refine tu 3 rfl ?_
      try simp only [Act.put, ly]
      refine tu 4 rfl ?_
      try simp only [Act.put, ly]
      refine tk 5 rfl ?_ ?_ ?_
      rotate_left
      ·intro w _; go_simp; try with_reducible rfl
      try simp only [Act.put, ly]
      refine tk 6 rfl ?_ ?_ ?_
      rotate_left
      ·intro w _; go_simp; try with_reducible rfl
      try simp only [Act.put, ly]
      refine tu 7 rfl ?_
      try simp only [Act.put, ly]
      refine tu 8 rfl ?_
      try simp only [Act.put, ly]
      refine tk 9 rfl ?_ ?_ ?_
      rotate_left
      ·intro w _; go_simp; try with_reducible rfl
      try simp only [Act.put, ly]
      refine tk 10 rfl ?_ ?_ ?_
      rotate_left
      ·intro w _; go_simp; try with_reducible rfl
      try simp only [Act.put, ly]
      refine tu 11 rfl ?_
      try simp only [Act.put, ly]
      refine tu 12 rfl ?_
      try simp only [Act.put, ly]
      refine tu 13 rfl ?_
      try simp only [Act.put, ly]
      refine tu 14 rfl ?_
      try simp only [Act.put, ly]
      refine tu 15 rfl ?_
      try simp only [Act.put, ly]
      refine tk 16 rfl ?_ ?_ ?_
      rotate_left
      ·intro w _; go_simp; try with_reducible rfl
      try simp only [Act.put, ly]
      refine wpAnyH_done (by kernel_rfl) ?_ _
      go_wp2
      go_ret
      exact .inr ⟨HL.out, rfl, ⟨A, n, d, hHeld.2.1, (HSL.out.on hHeld.1).low, HNE.out, hlg⟩, hHeld.1.mono hlow⟩
     ·have r1 : (readN a.data.toList).2 = true := by rw [readN_yes d1]
      rcases d3 : isDec c.data.toList with _ | _
      ·have r3 : (readN c.data.toList).2 = false := by rw [readN_no d3]
       have HL := Lib.hid (show stepS s r = none by rw [HST.out]; exact stepF_four_no he (wordsF_no2 d3))
       simp only [hn1', hn3', r1, r3] at x1 x3 ⊢
       have HN1 := Lib.hid hn1'
       have HN3 := Lib.hid hn3'
       clear hn1' hn3' h4
       go_wp2_with fail
       obtain ⟨wq, hwq⟩ : ∃ y, w3.alloc (.cells #[.int .i64 n1, .string b, .int .i64 n3] 145) = y := ⟨_, rfl⟩
       have bq : Below w3.heap.size w3 wq := by rw [← hwq]; exact (Below.refl _ _).alloc (Nat.le_refl _) _
       have yx : Blk wq w3.heap.size 145 #[.int .i64 n1, .string b, .int .i64 n3] := by rw [← hwq]; exact Blk.new _ _ _
       rw [hwq]
       clear hwq
       have y4 := y3.on bq
       have HB4 := Lib.hid (bnext HB3.out bq (Nat.le_refl _))
       have hgb : g < w3.heap.size := y3.lt
       obtain ⟨wb, hwb⟩ : ∃ y, w3.heap.size = y := ⟨_, rfl⟩
       rw [hwb] at yx hgb ⊢
       have hwbw : w.heap.size ≤ wb := by have := HB3.out.size; omega
       clear bq c1 y3 hwb
       refine wp_region_held_drew (S := (fun W => Below w.heap.size w W ∧ Blk W g 213 #[.string s, .int .i64 (r.at_ : Int), .int .i64 r.stamp, .slice A n d] ∧ Blk W wb 145 #[.int .i64 n1, .string b, .int .i64 n3])) (by kernel_rfl) ?_ (fun hHeld => ?_)
       ·exact ⟨HB4.out.drew, y4.drew, yx.drew⟩
       refine tk 0 rfl ?_ ?_ ?_
       rotate_left
       ·intro w _; go_simp; try with_reducible rfl
       try simp only [Act.put, ly]
       refine tk 1 rfl ?_ ?_ ?_
       rotate_left
       ·intro w _; go_simp; try with_reducible rfl
       try simp only [Act.put, ly]
       refine tk 2 rfl ?_ ?_ ?_
       rotate_left
       ·intro w _; go_simp; try with_reducible rfl
       try simp only [Act.put, ly]
       refine tk 3 rfl ?_ ?_ ?_
       rotate_left
       ·intro w _; go_simp; try with_reducible rfl
       try simp only [Act.put, ly]
       refine tk 4 rfl ?_ ?_ ?_
       rotate_left
       ·intro w _; go_simp; try with_reducible rfl
       try simp only [Act.put, ly]
       refine tk 5 rfl ?_ ?_ ?_
       rotate_left
       ·intro w _; go_simp; try with_reducible rfl
       try simp only [Act.put, ly]
       refine tk 6 rfl ?_ ?_ ?_
       rotate_left
       ·intro w _; go_simp; try with_reducible rfl
       try simp only [Act.put, ly]
       refine tu 7 rfl ?_
       try simp only [Act.put, ly]
       refine tu 8 rfl ?_
       try simp only [Act.put, ly]
       refine tk 9 rfl ?_ ?_ ?_
       rotate_left
       ·intro w _; go_simp; try with_reducible rfl
       try simp only [Act.put, ly]
       refine tk 10 rfl ?_ ?_ ?_
       rotate_left
       ·intro w _; go_simp; try with_reducible rfl
       try simp only [Act.put, ly]
       refine tu 11 rfl ?_
       try simp only [Act.put, ly]
       refine tu 12 rfl ?_
       try simp only [Act.put, ly]
       refine tu 13 rfl ?_
       try simp only [Act.put, ly]
       refine tu 14 rfl ?_
       try simp only [Act.put, ly]
       refine tu 15 rfl ?_
       try simp only [Act.put, ly]
       refine tk 16 rfl ?_ ?_ ?_
       rotate_left
       ·intro w _; go_simp; try with_reducible rfl
       try simp only [Act.put, ly]
       refine wpAnyH_done (by kernel_rfl) ?_ _
       go_wp2
       go_ret
       exact .inr ⟨HL.out, rfl, ⟨A, n, d, hHeld.2.1, (HSL.out.on hHeld.1).low, HNE.out, hlg⟩, hHeld.1.mono hlow⟩
      ·have r3 : (readN c.data.toList).2 = true := by rw [readN_yes d3]
       have E1 := readN_fst d1
       have E3 := readN_fst d3
       rw [hn1'] at E1
       rw [hn3'] at E3
       replace E1 := Lib.hid E1
       replace E3 := Lib.hid E3
       rcases hokx : okEn ⟨n1, b, n3⟩ with _ | _
       ·have HL := Lib.hid (show stepS s r = none by rw [HST.out]; exact stepF_four_no he (wordsF_no4 (by rw [← E1.out, ← E3.out]; exact hokx)))
        simp only [hn1', hn3', r1, r3] at x1 x3 ⊢
        have HN1 := Lib.hid hn1'
        have HN3 := Lib.hid hn3'
        clear hn1' hn3' h4
        go_wp2_with fail
        obtain ⟨wq, hwq⟩ : ∃ y, w3.alloc (.cells #[.int .i64 n1, .string b, .int .i64 n3] 145) = y := ⟨_, rfl⟩
        have bq : Below w3.heap.size w3 wq := by rw [← hwq]; exact (Below.refl _ _).alloc (Nat.le_refl _) _
        have yx : Blk wq w3.heap.size 145 #[.int .i64 n1, .string b, .int .i64 n3] := by rw [← hwq]; exact Blk.new _ _ _
        rw [hwq]
        clear hwq
        have y4 := y3.on bq
        have HB4 := Lib.hid (bnext HB3.out bq (Nat.le_refl _))
        have hgb : g < w3.heap.size := y3.lt
        obtain ⟨wb, hwb⟩ : ∃ y, w3.heap.size = y := ⟨_, rfl⟩
        rw [hwb] at yx hgb ⊢
        have hwbw : w.heap.size ≤ wb := by have := HB3.out.size; omega
        clear bq c1 y3 hwb
        refine wp_region_held_drew (S := (fun W => Below w.heap.size w W ∧ Blk W g 213 #[.string s, .int .i64 (r.at_ : Int), .int .i64 r.stamp, .slice A n d] ∧ Blk W wb 145 #[.int .i64 n1, .string b, .int .i64 n3])) (by kernel_rfl) ?_ (fun hHeld => ?_)
        ·exact ⟨HB4.out.drew, y4.drew, yx.drew⟩
        refine tk 0 rfl ?_ ?_ ?_
        rotate_left
        ·intro w _; go_simp; try with_reducible rfl
        try simp only [Act.put, ly]
        refine tk 1 rfl ?_ ?_ ?_
        rotate_left
        ·intro w _; go_simp; try with_reducible rfl
        try simp only [Act.put, ly]
        refine tk 2 rfl ?_ ?_ ?_
        rotate_left
        ·intro w _; go_simp; try with_reducible rfl
        try simp only [Act.put, ly]
        refine tk 3 rfl ?_ ?_ ?_
        rotate_left
        ·intro w _; go_simp; try with_reducible rfl
        try simp only [Act.put, ly]
        refine tk 4 rfl ?_ ?_ ?_
        rotate_left
        ·intro w _; go_simp; try with_reducible rfl
        try simp only [Act.put, ly]
        refine tk 5 rfl ?_ ?_ ?_
        rotate_left
        ·intro w _; go_simp; try with_reducible rfl
        try simp only [Act.put, ly]
        refine tk 6 rfl ?_ ?_ ?_
        rotate_left
        ·intro w _; go_simp; try with_reducible rfl
        try simp only [Act.put, ly]
        refine wpAnyH_ready (rs := [7]) (by kernel_rfl) (by simp) ?_
        refine AllReadyH.cons rfl (fun K hK => ?_) AllReadyH.nil
        go_simp
        go_at_call 230
        (have hk := l27Ok_any ⟨n1, b, n3⟩ wb _ (by simp only; omega) (hHeld.2.2.cellAt 0 (by simp)) (hHeld.2.2.cellAt 1 (by simp)) (hHeld.2.2.cellAt 2 (by simp)))
        rw [hokx] at hk
        refine hk.mono ?_
        rintro e w5 ⟨rfl, rfl⟩
        clear hk
        go_wp2_with fail
        refine hK.out _ _ ?_ (fun hNew => ?_)
        ·exact hHeld
        clear hK K hHeld
        have hHeld := hNew
        clear hNew
        try simp only [Act.put, ly]
        refine tk 8 rfl ?_ ?_ ?_
        rotate_left
        ·intro w _; go_simp; try with_reducible rfl
        try simp only [Act.put, ly]
        refine tk 9 rfl ?_ ?_ ?_
        rotate_left
        ·intro w _; go_simp; try with_reducible rfl
        try simp only [Act.put, ly]
        refine tk 10 rfl ?_ ?_ ?_
        rotate_left
        ·intro w _; go_simp; try with_reducible rfl
        try simp only [Act.put, ly]
        refine tu 11 rfl ?_
        try simp only [Act.put, ly]
        refine tu 12 rfl ?_
        try simp only [Act.put, ly]
        refine tu 13 rfl ?_
        try simp only [Act.put, ly]
        refine tu 14 rfl ?_
        try simp only [Act.put, ly]
        refine tu 15 rfl ?_
        try simp only [Act.put, ly]
        refine tk 16 rfl ?_ ?_ ?_
        rotate_left
        ·intro w _; go_simp; try with_reducible rfl
        try simp only [Act.put, ly]
        refine wpAnyH_done (by kernel_rfl) ?_ _
        go_wp2
        go_ret
        exact .inr ⟨HL.out, rfl, ⟨A, n, d, hHeld.2.1, (HSL.out.on hHeld.1).low, HNE.out, hlg⟩, hHeld.1.mono hlow⟩
       ·by_cases hday : dayR r.list ≤ n1
        ·have hg1 : decide (n1 < dayR r.list) = false := decide_eq_false (by omega)
         obtain ⟨sp, hsp⟩ : ∃ y, stampW r.stamp (wordsB ⟨n1, b, n3⟩) = y := ⟨_, rfl⟩
         have hspb := stampW_bd r.stamp (wordsB ⟨n1, b, n3⟩)
         rw [hsp] at hspb
         have HSP := Lib.hid hsp
         have HT1 := Lib.hid (show lineB sp ⟨n1, b, n3⟩ ≠ line ++ ⟨#[10]⟩ → stepS s r = none from fun q => by rw [HST.out]; exact stepF_four_text he d1 d3 (by rw [← E1.out, ← E3.out, hsp]; exact q))
         have HT2 := Lib.hid (show lineB sp ⟨n1, b, n3⟩ = line ++ ⟨#[10]⟩ → stepS s r = some ⟨r.list ++ [⟨n1, b, n3⟩], sp, k + 1⟩ from fun q => by
          have e9 := stepF_four_yes (r := r) he d1 d3 (by rw [← E1.out, ← E3.out]; exact hokx) (by rw [← E1.out]; exact hday) (by rw [← E1.out, ← E3.out, hsp]; exact q)
          rw [HST.out, e9, ← E1.out, ← E3.out, hsp, hlk])
         have hwsz := wordsB_small hokx
         have hok1 := Lib.hid hokx
         clear hsp
         simp only [hn1', hn3', r1, r3] at x1 x3 ⊢
         have HN1 := Lib.hid hn1'
         have HN3 := Lib.hid hn3'
         clear hn1' hn3' h4
         go_wp2_with fail
         obtain ⟨wq, hwq⟩ : ∃ y, w3.alloc (.cells #[.int .i64 n1, .string b, .int .i64 n3] 145) = y := ⟨_, rfl⟩
         have bq : Below w3.heap.size w3 wq := by rw [← hwq]; exact (Below.refl _ _).alloc (Nat.le_refl _) _
         have yx : Blk wq w3.heap.size 145 #[.int .i64 n1, .string b, .int .i64 n3] := by rw [← hwq]; exact Blk.new _ _ _
         rw [hwq]
         clear hwq
         have y4 := y3.on bq
         have HB4 := Lib.hid (bnext HB3.out bq (Nat.le_refl _))
         have hgb : g < w3.heap.size := y3.lt
         obtain ⟨wb, hwb⟩ : ∃ y, w3.heap.size = y := ⟨_, rfl⟩
         rw [hwb] at yx hgb ⊢
         have hwbw : w.heap.size ≤ wb := by have := HB3.out.size; omega
         clear bq c1 y3 hwb
         refine wp_region_held_drew (S := (fun W => Below w.heap.size w W ∧ Blk W g 213 #[.string s, .int .i64 (r.at_ : Int), .int .i64 r.stamp, .slice A n d] ∧ Blk W wb 145 #[.int .i64 n1, .string b, .int .i64 n3])) (by kernel_rfl) ?_ (fun hHeld => ?_)
         ·exact ⟨HB4.out.drew, y4.drew, yx.drew⟩
         refine tk 0 rfl ?_ ?_ ?_
         rotate_left
         ·intro w _; go_simp; try with_reducible rfl
         try simp only [Act.put, ly]
         refine tk 1 rfl ?_ ?_ ?_
         rotate_left
         ·intro w _; go_simp; try with_reducible rfl
         try simp only [Act.put, ly]
         refine tk 2 rfl ?_ ?_ ?_
         rotate_left
         ·intro w _; go_simp; try with_reducible rfl
         try simp only [Act.put, ly]
         refine tk 3 rfl ?_ ?_ ?_
         rotate_left
         ·intro w _; go_simp; try with_reducible rfl
         try simp only [Act.put, ly]
         refine tk 4 rfl ?_ ?_ ?_
         rotate_left
         ·intro w _; go_simp; try with_reducible rfl
         try simp only [Act.put, ly]
         refine tk 5 rfl ?_ ?_ ?_
         rotate_left
         ·intro w _; go_simp; try with_reducible rfl
         try simp only [Act.put, ly]
         refine tk 6 rfl ?_ ?_ ?_
         rotate_left
         ·intro w _; go_simp; try with_reducible rfl
         try simp only [Act.put, ly]
         refine wpAnyH_ready (rs := [7]) (by kernel_rfl) (by simp) ?_
         refine AllReadyH.cons rfl (fun K hK => ?_) AllReadyH.nil
         go_simp
         go_at_call 230
         (have hk := l27Ok_any ⟨n1, b, n3⟩ wb _ (by simp only; omega) (hHeld.2.2.cellAt 0 (by simp)) (hHeld.2.2.cellAt 1 (by simp)) (hHeld.2.2.cellAt 2 (by simp)))
         rw [hokx] at hk
         refine hk.mono ?_
         rintro e w5 ⟨rfl, rfl⟩
         clear hk
         go_wp2_with fail
         refine hK.out _ _ ?_ (fun hNew => ?_)
         ·exact hHeld
         clear hK K hHeld
         have hHeld := hNew
         clear hNew
         try simp only [Act.put, ly]
         refine tk 8 rfl ?_ ?_ ?_
         rotate_left
         ·intro w _; go_simp; try with_reducible rfl
         try simp only [Act.put, ly]
         refine tk 9 rfl ?_ ?_ ?_
         rotate_left
         ·intro w _; go_simp; try with_reducible rfl
         try simp only [Act.put, ly]
         refine tk 10 rfl ?_ ?_ ?_
         rotate_left
         ·intro w _; go_simp; try with_reducible rfl
         try simp only [Act.put, ly]
         refine tk 11 rfl ?_ ?_ ?_
         rotate_left
         ·intro w _; go_simp; try with_reducible rfl
         try simp only [Act.put, ly]
         refine tk 12 rfl ?_ ?_ ?_
         rotate_left
         ·intro w hSw; (try dsimp only at hSw); (have e0 := hSw.2.1.cellAt 0 (by simp)); (have e1 := hSw.2.1.cellAt 1 (by simp)); (have e2 := hSw.2.1.cellAt 2 (by simp)); (have e3 := hSw.2.1.cellAt 3 (by simp)); (have f0 := hSw.2.2.cellAt 0 (by simp)); (have f1 := hSw.2.2.cellAt 1 (by simp)); (have f2 := hSw.2.2.cellAt 2 (by simp)); go_simp; try with_reducible rfl
         try simp only [Act.put, ly]
         refine tk 13 rfl ?_ ?_ ?_
         rotate_left
         ·intro w _; go_simp; try with_reducible rfl
         try simp only [Act.put, ly]
         refine wpAnyH_ready (rs := [14]) (by kernel_rfl) (by simp) ?_
         refine AllReadyH.cons rfl (fun K hK => ?_) AllReadyH.nil
         go_simp
         go_at_call 231
         refine (l27Day2_any lo g s r _ ⟨A, n, d, hHeld.2.1, (HSL.out.on hHeld.1).low, HNE.out, hlg⟩ HOK.out (by omega)).mono ?_
         rintro e w6 ⟨rfl, m6, rfl⟩
         go_wp2_with fail
         refine hK.out _ _ ?_ (fun hNew => ?_)
         ·exact ⟨below_drewN HB4.out _, y4.drewN _, yx.drewN _⟩
         clear hK K hHeld
         have hHeld := hNew
         clear hNew
         try simp only [Act.put, ly]
         refine tk 15 rfl ?_ ?_ ?_
         rotate_left
         ·intro w _; go_simp; try with_reducible rfl
         try simp only [Act.put, ly]
         refine tk 16 rfl ?_ ?_ ?_
         rotate_left
         ·intro w _; go_simp; try with_reducible rfl
         try simp only [Act.put, ly]
         refine wpAnyH_done (by kernel_rfl) ?_ _
         have y5 := hHeld.2.1
         have yx5 := hHeld.2.2
         have HB5 := Lib.hid hHeld.1
         clear hHeld y4 yx
         go_wp2_with fail
         refine wp_region_held_drew (S := (fun W => Below w.heap.size w W ∧ Blk W g 213 #[.string s, .int .i64 (r.at_ : Int), .int .i64 r.stamp, .slice A n d] ∧ Blk W wb 145 #[.int .i64 n1, .string b, .int .i64 n3])) (by kernel_rfl) ?_ (fun hHeld => ?_)
         ·exact ⟨HB5.out.drew, y5.drew, yx5.drew⟩
         refine tk 0 rfl ?_ ?_ ?_
         rotate_left
         ·intro w _; go_simp; try with_reducible rfl
         try simp only [Act.put, ly]
         refine tk 1 rfl ?_ ?_ ?_
         rotate_left
         ·intro w _; go_simp; try with_reducible rfl
         try simp only [Act.put, ly]
         refine tk 2 rfl ?_ ?_ ?_
         rotate_left
         ·intro w _; go_simp; try with_reducible rfl
         try simp only [Act.put, ly]
         refine tk 3 rfl ?_ ?_ ?_
         rotate_left
         ·intro w hSw; (try dsimp only at hSw); (have e0 := hSw.2.1.cellAt 0 (by simp)); (have e1 := hSw.2.1.cellAt 1 (by simp)); (have e2 := hSw.2.1.cellAt 2 (by simp)); (have e3 := hSw.2.1.cellAt 3 (by simp)); (have f0 := hSw.2.2.cellAt 0 (by simp)); (have f1 := hSw.2.2.cellAt 1 (by simp)); (have f2 := hSw.2.2.cellAt 2 (by simp)); go_simp; try with_reducible rfl
         try simp only [Act.put, ly]
         refine wpAnyH_ready (rs := [4]) (by kernel_rfl) (by simp) ?_
         refine AllReadyH.cons rfl (fun K hK => ?_) AllReadyH.nil
         go_simp
         go_at_call 176
         refine (l27Words_any ⟨n1, b, n3⟩ wb _ hxg hxs (hHeld.2.2.cellAt 0 (by simp)) (hHeld.2.2.cellAt 1 (by simp)) (hHeld.2.2.cellAt 2 (by simp))).mono ?_
         rintro e w7 ⟨rfl, b7⟩
         go_wp2_with fail
         refine hK.out _ _ ?_ (fun hNew => ?_)
         ·exact ⟨bnext hHeld.1 b7 (Nat.le_refl _), hHeld.2.1.on b7, hHeld.2.2.on b7⟩
         clear hK K hHeld
         have hHeld := hNew
         clear hNew
         try simp only [Act.put, ly]
         refine wpAnyH_ready (rs := [5]) (by kernel_rfl) (by simp) ?_
         refine AllReadyH.cons rfl (fun K hK => ?_) AllReadyH.nil
         go_simp
         go_at_call 233
         refine (l27Stamp_any r.stamp (wordsB ⟨n1, b, n3⟩) _ hs0 hs1 (by omega)).mono ?_
         rintro e w8 ⟨rfl, rfl⟩
         go_wp2_with fail
         refine hK.out _ _ ?_ (fun hNew => ?_)
         ·exact hHeld
         clear hK K hHeld
         have hHeld := hNew
         clear hNew
         try simp only [Act.put, ly]
         refine tk 6 rfl ?_ ?_ ?_
         rotate_left
         ·intro w _; go_simp; try with_reducible rfl
         try simp only [Act.put, ly]
         refine wpAnyH_done (by kernel_rfl) ?_ _
         have y8 := hHeld.2.1
         have yx8 := hHeld.2.2
         have HB8 := Lib.hid hHeld.1
         clear hHeld y5 yx5
         rw [HSP.out]
         go_wp2_with fail
         have hk2 : (k : Int) + 1 ≤ (s.size : Int) := by omega
         have hk3 : (r.at_ : Int) ≤ (k : Int) + 1 := by omega
         have hkw : IntKind.i64.wrap ((k : Int) + 1) = (k : Int) + 1 := by
          unfold IntKind.wrap; simp [IntKind.bits, IntKind.signed]; omega
         have hkt : ((k : Int) + 1).toNat = k + 1 := by omega
         by_cases htx : lineB sp ⟨n1, b, n3⟩ = line ++ ⟨#[10]⟩
         ·have HL := Lib.hid (HT2.out htx)
          have hq3 : ((lineB sp ⟨n1, b, n3⟩).toList == (s.extract r.at_ (k + 1)).toList) = true := by rw [HEX.out, htx]; exact beq_self_eq_true _
          clear htx
          refine wp_region_held_drew (S := (fun W => Below w.heap.size w W ∧ Blk W g 213 #[.string s, .int .i64 (r.at_ : Int), .int .i64 r.stamp, .slice A n d] ∧ Blk W wb 145 #[.int .i64 n1, .string b, .int .i64 n3])) (by kernel_rfl) ?_ (fun hHeld => ?_)
          ·exact ⟨HB8.out.drew, y8.drew, yx8.drew⟩
          refine tk 0 rfl ?_ ?_ ?_
          rotate_left
          ·intro w _; go_simp; try with_reducible rfl
          try simp only [Act.put, ly]
          refine tk 2 rfl ?_ ?_ ?_
          rotate_left
          ·intro w _; go_simp; try with_reducible rfl
          try simp only [Act.put, ly]
          refine tk 3 rfl ?_ ?_ ?_
          rotate_left
          ·intro w _; go_simp; try with_reducible rfl
          try simp only [Act.put, ly]
          refine tk 4 rfl ?_ ?_ ?_
          rotate_left
          ·intro w _; go_simp; try with_reducible rfl
          try simp only [Act.put, ly]
          refine tk 5 rfl ?_ ?_ ?_
          rotate_left
          ·intro w hSw; (try dsimp only at hSw); (have e0 := hSw.2.1.cellAt 0 (by simp)); (have e1 := hSw.2.1.cellAt 1 (by simp)); (have e2 := hSw.2.1.cellAt 2 (by simp)); (have e3 := hSw.2.1.cellAt 3 (by simp)); (have f0 := hSw.2.2.cellAt 0 (by simp)); (have f1 := hSw.2.2.cellAt 1 (by simp)); (have f2 := hSw.2.2.cellAt 2 (by simp)); go_simp; try with_reducible rfl
          try simp only [Act.put, ly]
          refine tk 6 rfl ?_ ?_ ?_
          rotate_left
          ·intro w _; go_simp; try with_reducible rfl
          try simp only [Act.put, ly]
          refine tk 7 rfl ?_ ?_ ?_
          rotate_left
          ·intro w _; go_simp; try with_reducible rfl
          try simp only [Act.put, ly]
          refine tk 8 rfl ?_ ?_ ?_
          rotate_left
          ·intro w _; go_simp; try with_reducible rfl
          try simp only [Act.put, ly]
          refine tk 9 rfl ?_ ?_ ?_
          rotate_left
          ·intro w hSw; (try dsimp only at hSw); (have e0 := hSw.2.1.cellAt 0 (by simp)); (have e1 := hSw.2.1.cellAt 1 (by simp)); (have e2 := hSw.2.1.cellAt 2 (by simp)); (have e3 := hSw.2.1.cellAt 3 (by simp)); (have f0 := hSw.2.2.cellAt 0 (by simp)); (have f1 := hSw.2.2.cellAt 1 (by simp)); (have f2 := hSw.2.2.cellAt 2 (by simp)); go_simp; try with_reducible rfl
          try simp only [Act.put, ly]
          refine tk 10 rfl ?_ ?_ ?_
          rotate_left
          ·intro w _; go_simp; try with_reducible rfl
          try simp only [Act.put, ly]
          refine tk 11 rfl ?_ ?_ ?_
          rotate_left
          ·intro w _; go_simp; try with_reducible rfl
          try simp only [Act.put, ly]
          refine tk 12 rfl ?_ ?_ ?_
          rotate_left
          ·intro w _; go_simp; try with_reducible rfl
          try simp only [Act.put, ly]
          refine wpAnyH_ready (rs := [1]) (by kernel_rfl) (by simp) ?_
          refine AllReadyH.cons rfl (fun K hK => ?_) AllReadyH.nil
          go_simp
          go_at_call 232
          refine (l27Line_any sp ⟨n1, b, n3⟩ wb _ hok1.out hspb.1 hspb.2 (hHeld.2.2.cellAt 0 (by simp)) (hHeld.2.2.cellAt 1 (by simp)) (hHeld.2.2.cellAt 2 (by simp))).mono ?_
          rintro e w9 ⟨rfl, b9⟩
          go_wp2_with fail
          refine hK.out _ _ ?_ (fun hNew => ?_)
          ·exact ⟨bnext hHeld.1 b9 (Nat.le_refl _), hHeld.2.1.on b9, hHeld.2.2.on b9⟩
          clear hK K hHeld
          have hHeld := hNew
          clear hNew
          try simp only [Act.put, ly]
          refine tk 13 rfl ?_ ?_ ?_
          rotate_left
          ·intro w _; go_simp; try with_reducible rfl
          try simp only [Act.put, ly]
          refine wpAnyH_done (by kernel_rfl) ?_ _
          have y9 := hHeld.2.1
          have yx9 := hHeld.2.2
          have HB9 := Lib.hid hHeld.1
          clear hHeld y8 yx8
          clear HT1 HT2
          have hg9 : g < w9.heap.size := y9.lt
          have hsl9 := (HSL.out.on HB9.out).low
          have hz9 : lo ≤ w9.heap.size := by have := HB9.out.size; omega
          have o0 : w9.cell? ⟨g, 0, none⟩ = some (.string s) := y9.cellAt 0 (by simp)
          have o1 : w9.cell? ⟨g, 1, none⟩ = some (.int .i64 (r.at_ : Int)) := y9.cellAt 1 (by simp)
          have o2 : w9.cell? ⟨g, 2, none⟩ = some (.int .i64 r.stamp) := y9.cellAt 2 (by simp)
          have o3 : w9.cell? ⟨g, 3, none⟩ = some (.slice A n d) := y9.cellAt 3 (by simp)
          have e0 : w9.cell? ⟨wb, 0, none⟩ = some (.int .i64 n1) := yx9.cellAt 0 (by simp)
          have e1 : w9.cell? ⟨wb, 1, none⟩ = some (.string b) := yx9.cellAt 1 (by simp)
          have e2 : w9.cell? ⟨wb, 2, none⟩ = some (.int .i64 n3) := yx9.cellAt 2 (by simp)
          go_wp2_with fail
          refine wp_region_held_drew (S := (fun _ => True)) (by kernel_rfl) ?_ (fun hHeld => ?_)
          ·trivial
          refine tk 0 rfl ?_ ?_ ?_
          rotate_left
          ·intro w _; go_simp; try with_reducible rfl
          try simp only [Act.put, ly]
          refine tk 1 rfl ?_ ?_ ?_
          rotate_left
          ·intro w _; go_simp; try with_reducible rfl
          try simp only [Act.put, ly]
          refine tk 2 rfl ?_ ?_ ?_
          rotate_left
          ·intro w _; go_simp; try with_reducible rfl
          try simp only [Act.put, ly]
          refine tk 3 rfl ?_ ?_ ?_
          rotate_left
          ·intro w _; go_simp; try with_reducible rfl
          try simp only [Act.put, ly]
          refine wpAnyH_ready (rs := [4, 5]) (by kernel_rfl) (by simp) ?_
          refine AllReadyH.cons rfl (fun K hK => ?_) ?_
          ·skip
           go_simp
           refine hK.out _ _ ?_ (fun hNew => ?_)
           ·trivial
           clear hK K hHeld
           have hHeld := hNew
           clear hNew
           try simp only [Act.put, ly]
           refine wpAnyH_ready (rs := [5]) (by kernel_rfl) (by simp) ?_
           refine AllReadyH.cons rfl (fun K hK => ?_) AllReadyH.nil
           go_simp
           refine hK.out _ _ ?_ (fun hNew => ?_)
           ·trivial
           clear hK K hHeld
           have hHeld := hNew
           clear hNew
           try simp only [Act.put, ly]
           refine wpAnyH_ready (rs := [6]) (by kernel_rfl) (by simp) ?_
           refine AllReadyH.cons rfl (fun K hK => ?_) AllReadyH.nil
           go_simp
           refine hK.out _ _ ?_ (fun hNew => ?_)
           ·trivial
           clear hK K hHeld
           have hHeld := hNew
           clear hNew
           try simp only [Act.put, ly]
           refine wpAnyH_ready (rs := [7]) (by kernel_rfl) (by simp) ?_
           refine AllReadyH.cons rfl (fun K hK => ?_) AllReadyH.nil
           refine step_slOneF rfl _ _ 148 rfl 145 _ 3 32 Tryz.underlying148 info_en rfl (by decide) (by decide) hsl9.drew hz9 rfl (cellsEn ⟨n1, b, n3⟩) w9.heap.size rfl rfl rfl (ens_one _) (by omega) ?_
           intro A2 d2 w10 hs10 b10 f10 k10
           refine hK.out _ _ ?_ (fun hNew => ?_)
           ·trivial
           clear hK K hHeld
           have hHeld := hNew
           clear hNew
           try simp only [Act.put, ly]
           refine tk 8 rfl ?_ ?_ ?_
           rotate_left
           ·intro w _; go_simp; try with_reducible rfl
           try simp only [Act.put, ly]
           refine tk 9 rfl ?_ ?_ ?_
           rotate_left
           ·intro w _; go_simp; try with_reducible rfl
           try simp only [Act.put, ly]
           refine wpAnyH_ready (rs := [10]) (by kernel_rfl) (by simp) ?_
           refine AllReadyH.cons rfl (fun K hK => ?_) AllReadyH.nil
           have y10 : Blk w10 g 213 #[.string s, .int .i64 (r.at_ : Int), .int .i64 r.stamp, .slice A n d] := (f10 g hg9 HNE.out).trans y9
           have p0 : w10.cell? ⟨g, 0, none⟩ = some (.string s) := y10.cellAt 0 (by simp)
           have p1 : w10.cell? ⟨g, 1, none⟩ = some (.int .i64 (r.at_ : Int)) := y10.cellAt 1 (by simp)
           have p2 : w10.cell? ⟨g, 2, none⟩ = some (.int .i64 r.stamp) := y10.cellAt 2 (by simp)
           have p3 : w10.cell? ⟨g, 3, none⟩ = some (.slice A n d) := y10.cellAt 3 (by simp)
           have pf0 := y10.frozen 0
           have pf1 := y10.frozen 1
           have pf2 := y10.frozen 2
           have pf3 := y10.frozen 3
           go_simp
           refine hK.out _ _ ?_ (fun hNew => ?_)
           ·trivial
           clear hK K hHeld
           have hHeld := hNew
           clear hNew
           try simp only [Act.put, ly]
           refine wpAnyH_done (by kernel_rfl) ?_ _
           have hne10 : ∀ ad, A2 = some ad → ad.block ≠ g := k10 g hg9 HNE.out
           go_wp2
           go_ret
           refine .inl ⟨_, HL.out, rfl, ⟨A2, n + 1, d2, ?_, ?_, hne10, hlg⟩, ((((HB9.out.mono hlow).drew.trans b10).setCell hlg _).setCell hlg _).setCell hlg _⟩
           ·have q9 := ((y10.set_ 3 (.slice A2 (n + 1) d2)).set_ 2 (.int .i64 sp)).set_ 1 (.int .i64 ((k + 1 : Nat) : Int))
            simpa using q9
           ·rw [ens_snoc]
            exact (((hs10.setNe hne10 _).setNe hne10 _).setNe hne10 _).low
          refine AllReadyH.cons rfl (fun K hK => ?_) ?_
          ·skip
           go_simp
           refine hK.out _ _ ?_ (fun hNew => ?_)
           ·trivial
           clear hK K hHeld
           have hHeld := hNew
           clear hNew
           try simp only [Act.put, ly]
           refine wpAnyH_ready (rs := [4, 6]) (by kernel_rfl) (by simp) ?_
           refine AllReadyH.cons rfl (fun K hK => ?_) ?_
           ·skip
            go_simp
            refine hK.out _ _ ?_ (fun hNew => ?_)
            ·trivial
            clear hK K hHeld
            have hHeld := hNew
            clear hNew
            try simp only [Act.put, ly]
            refine wpAnyH_ready (rs := [6]) (by kernel_rfl) (by simp) ?_
            refine AllReadyH.cons rfl (fun K hK => ?_) AllReadyH.nil
            go_simp
            refine hK.out _ _ ?_ (fun hNew => ?_)
            ·trivial
            clear hK K hHeld
            have hHeld := hNew
            clear hNew
            try simp only [Act.put, ly]
            refine wpAnyH_ready (rs := [7]) (by kernel_rfl) (by simp) ?_
            refine AllReadyH.cons rfl (fun K hK => ?_) AllReadyH.nil
            refine step_slOneF rfl _ _ 148 rfl 145 _ 3 32 Tryz.underlying148 info_en rfl (by decide) (by decide) hsl9.drew hz9 rfl (cellsEn ⟨n1, b, n3⟩) w9.heap.size rfl rfl rfl (ens_one _) (by omega) ?_
            intro A2 d2 w10 hs10 b10 f10 k10
            refine hK.out _ _ ?_ (fun hNew => ?_)
            ·trivial
            clear hK K hHeld
            have hHeld := hNew
            clear hNew
            try simp only [Act.put, ly]
            refine tk 8 rfl ?_ ?_ ?_
            rotate_left
            ·intro w _; go_simp; try with_reducible rfl
            try simp only [Act.put, ly]
            refine tk 9 rfl ?_ ?_ ?_
            rotate_left
            ·intro w _; go_simp; try with_reducible rfl
            try simp only [Act.put, ly]
            refine wpAnyH_ready (rs := [10]) (by kernel_rfl) (by simp) ?_
            refine AllReadyH.cons rfl (fun K hK => ?_) AllReadyH.nil
            have y10 : Blk w10 g 213 #[.string s, .int .i64 (r.at_ : Int), .int .i64 r.stamp, .slice A n d] := (f10 g hg9 HNE.out).trans y9
            have p0 : w10.cell? ⟨g, 0, none⟩ = some (.string s) := y10.cellAt 0 (by simp)
            have p1 : w10.cell? ⟨g, 1, none⟩ = some (.int .i64 (r.at_ : Int)) := y10.cellAt 1 (by simp)
            have p2 : w10.cell? ⟨g, 2, none⟩ = some (.int .i64 r.stamp) := y10.cellAt 2 (by simp)
            have p3 : w10.cell? ⟨g, 3, none⟩ = some (.slice A n d) := y10.cellAt 3 (by simp)
            have pf0 := y10.frozen 0
            have pf1 := y10.frozen 1
            have pf2 := y10.frozen 2
            have pf3 := y10.frozen 3
            go_simp
            refine hK.out _ _ ?_ (fun hNew => ?_)
            ·trivial
            clear hK K hHeld
            have hHeld := hNew
            clear hNew
            try simp only [Act.put, ly]
            refine wpAnyH_done (by kernel_rfl) ?_ _
            have hne10 : ∀ ad, A2 = some ad → ad.block ≠ g := k10 g hg9 HNE.out
            go_wp2
            go_ret
            refine .inl ⟨_, HL.out, rfl, ⟨A2, n + 1, d2, ?_, ?_, hne10, hlg⟩, ((((HB9.out.mono hlow).drew.trans b10).setCell hlg _).setCell hlg _).setCell hlg _⟩
            ·have q9 := ((y10.set_ 3 (.slice A2 (n + 1) d2)).set_ 2 (.int .i64 sp)).set_ 1 (.int .i64 ((k + 1 : Nat) : Int))
             simpa using q9
            ·rw [ens_snoc]
             exact (((hs10.setNe hne10 _).setNe hne10 _).setNe hne10 _).low
           refine AllReadyH.cons rfl (fun K hK => ?_) ?_
           ·skip
            go_simp
            refine hK.out _ _ ?_ (fun hNew => ?_)
            ·trivial
            clear hK K hHeld
            have hHeld := hNew
            clear hNew
            try simp only [Act.put, ly]
            refine wpAnyH_ready (rs := [4]) (by kernel_rfl) (by simp) ?_
            refine AllReadyH.cons rfl (fun K hK => ?_) AllReadyH.nil
            go_simp
            refine hK.out _ _ ?_ (fun hNew => ?_)
            ·trivial
            clear hK K hHeld
            have hHeld := hNew
            clear hNew
            try simp only [Act.put, ly]
            refine wpAnyH_ready (rs := [7]) (by kernel_rfl) (by simp) ?_
            refine AllReadyH.cons rfl (fun K hK => ?_) AllReadyH.nil
            refine step_slOneF rfl _ _ 148 rfl 145 _ 3 32 Tryz.underlying148 info_en rfl (by decide) (by decide) hsl9.drew hz9 rfl (cellsEn ⟨n1, b, n3⟩) w9.heap.size rfl rfl rfl (ens_one _) (by omega) ?_
            intro A2 d2 w10 hs10 b10 f10 k10
            refine hK.out _ _ ?_ (fun hNew => ?_)
            ·trivial
            clear hK K hHeld
            have hHeld := hNew
            clear hNew
            try simp only [Act.put, ly]
            refine tk 8 rfl ?_ ?_ ?_
            rotate_left
            ·intro w _; go_simp; try with_reducible rfl
            try simp only [Act.put, ly]
            refine tk 9 rfl ?_ ?_ ?_
            rotate_left
            ·intro w _; go_simp; try with_reducible rfl
            try simp only [Act.put, ly]
            refine wpAnyH_ready (rs := [10]) (by kernel_rfl) (by simp) ?_
            refine AllReadyH.cons rfl (fun K hK => ?_) AllReadyH.nil
            have y10 : Blk w10 g 213 #[.string s, .int .i64 (r.at_ : Int), .int .i64 r.stamp, .slice A n d] := (f10 g hg9 HNE.out).trans y9
            have p0 : w10.cell? ⟨g, 0, none⟩ = some (.string s) := y10.cellAt 0 (by simp)
            have p1 : w10.cell? ⟨g, 1, none⟩ = some (.int .i64 (r.at_ : Int)) := y10.cellAt 1 (by simp)
            have p2 : w10.cell? ⟨g, 2, none⟩ = some (.int .i64 r.stamp) := y10.cellAt 2 (by simp)
            have p3 : w10.cell? ⟨g, 3, none⟩ = some (.slice A n d) := y10.cellAt 3 (by simp)
            have pf0 := y10.frozen 0
            have pf1 := y10.frozen 1
            have pf2 := y10.frozen 2
            have pf3 := y10.frozen 3
            go_simp
            refine hK.out _ _ ?_ (fun hNew => ?_)
            ·trivial
            clear hK K hHeld
            have hHeld := hNew
            clear hNew
            try simp only [Act.put, ly]
            refine wpAnyH_done (by kernel_rfl) ?_ _
            have hne10 : ∀ ad, A2 = some ad → ad.block ≠ g := k10 g hg9 HNE.out
            go_wp2
            go_ret
            refine .inl ⟨_, HL.out, rfl, ⟨A2, n + 1, d2, ?_, ?_, hne10, hlg⟩, ((((HB9.out.mono hlow).drew.trans b10).setCell hlg _).setCell hlg _).setCell hlg _⟩
            ·have q9 := ((y10.set_ 3 (.slice A2 (n + 1) d2)).set_ 2 (.int .i64 sp)).set_ 1 (.int .i64 ((k + 1 : Nat) : Int))
             simpa using q9
            ·rw [ens_snoc]
             exact (((hs10.setNe hne10 _).setNe hne10 _).setNe hne10 _).low
           exact AllReadyH.nil
          exact AllReadyH.nil
         ·have HL := Lib.hid (HT1.out htx)
          have hq3 : ((lineB sp ⟨n1, b, n3⟩).toList == (s.extract r.at_ (k + 1)).toList) = false := by rw [HEX.out, beq_eq_false_iff_ne, ne_eq, Go.ByteArray.toList_eq, Go.ByteArray.toList_eq]; exact fun q => htx (bytes_ext q)
          clear htx
          refine wp_region_held_drew (S := (fun W => Below w.heap.size w W ∧ Blk W g 213 #[.string s, .int .i64 (r.at_ : Int), .int .i64 r.stamp, .slice A n d] ∧ Blk W wb 145 #[.int .i64 n1, .string b, .int .i64 n3])) (by kernel_rfl) ?_ (fun hHeld => ?_)
          ·exact ⟨HB8.out.drew, y8.drew, yx8.drew⟩
          refine tk 0 rfl ?_ ?_ ?_
          rotate_left
          ·intro w _; go_simp; try with_reducible rfl
          try simp only [Act.put, ly]
          refine tk 2 rfl ?_ ?_ ?_
          rotate_left
          ·intro w _; go_simp; try with_reducible rfl
          try simp only [Act.put, ly]
          refine tk 3 rfl ?_ ?_ ?_
          rotate_left
          ·intro w _; go_simp; try with_reducible rfl
          try simp only [Act.put, ly]
          refine tk 4 rfl ?_ ?_ ?_
          rotate_left
          ·intro w _; go_simp; try with_reducible rfl
          try simp only [Act.put, ly]
          refine tk 5 rfl ?_ ?_ ?_
          rotate_left
          ·intro w hSw; (try dsimp only at hSw); (have e0 := hSw.2.1.cellAt 0 (by simp)); (have e1 := hSw.2.1.cellAt 1 (by simp)); (have e2 := hSw.2.1.cellAt 2 (by simp)); (have e3 := hSw.2.1.cellAt 3 (by simp)); (have f0 := hSw.2.2.cellAt 0 (by simp)); (have f1 := hSw.2.2.cellAt 1 (by simp)); (have f2 := hSw.2.2.cellAt 2 (by simp)); go_simp; try with_reducible rfl
          try simp only [Act.put, ly]
          refine tk 6 rfl ?_ ?_ ?_
          rotate_left
          ·intro w _; go_simp; try with_reducible rfl
          try simp only [Act.put, ly]
          refine tk 7 rfl ?_ ?_ ?_
          rotate_left
          ·intro w _; go_simp; try with_reducible rfl
          try simp only [Act.put, ly]
          refine tk 8 rfl ?_ ?_ ?_
          rotate_left
          ·intro w _; go_simp; try with_reducible rfl
          try simp only [Act.put, ly]
          refine tk 9 rfl ?_ ?_ ?_
          rotate_left
          ·intro w hSw; (try dsimp only at hSw); (have e0 := hSw.2.1.cellAt 0 (by simp)); (have e1 := hSw.2.1.cellAt 1 (by simp)); (have e2 := hSw.2.1.cellAt 2 (by simp)); (have e3 := hSw.2.1.cellAt 3 (by simp)); (have f0 := hSw.2.2.cellAt 0 (by simp)); (have f1 := hSw.2.2.cellAt 1 (by simp)); (have f2 := hSw.2.2.cellAt 2 (by simp)); go_simp; try with_reducible rfl
          try simp only [Act.put, ly]
          refine tk 10 rfl ?_ ?_ ?_
          rotate_left
          ·intro w _; go_simp; try with_reducible rfl
          try simp only [Act.put, ly]
          refine tk 11 rfl ?_ ?_ ?_
          rotate_left
          ·intro w _; go_simp; try with_reducible rfl
          try simp only [Act.put, ly]
          refine tk 12 rfl ?_ ?_ ?_
          rotate_left
          ·intro w _; go_simp; try with_reducible rfl
          try simp only [Act.put, ly]
          refine wpAnyH_ready (rs := [1]) (by kernel_rfl) (by simp) ?_
          refine AllReadyH.cons rfl (fun K hK => ?_) AllReadyH.nil
          go_simp
          go_at_call 232
          refine (l27Line_any sp ⟨n1, b, n3⟩ wb _ hok1.out hspb.1 hspb.2 (hHeld.2.2.cellAt 0 (by simp)) (hHeld.2.2.cellAt 1 (by simp)) (hHeld.2.2.cellAt 2 (by simp))).mono ?_
          rintro e w9 ⟨rfl, b9⟩
          go_wp2_with fail
          refine hK.out _ _ ?_ (fun hNew => ?_)
          ·exact ⟨bnext hHeld.1 b9 (Nat.le_refl _), hHeld.2.1.on b9, hHeld.2.2.on b9⟩
          clear hK K hHeld
          have hHeld := hNew
          clear hNew
          try simp only [Act.put, ly]
          refine tk 13 rfl ?_ ?_ ?_
          rotate_left
          ·intro w _; go_simp; try with_reducible rfl
          try simp only [Act.put, ly]
          refine wpAnyH_done (by kernel_rfl) ?_ _
          go_wp2
          go_ret
          exact .inr ⟨HL.out, rfl, ⟨A, n, d, hHeld.2.1, (HSL.out.on hHeld.1).low, HNE.out, hlg⟩, hHeld.1.mono hlow⟩
        ·have hg1 : decide (n1 < dayR r.list) = true := decide_eq_true (by omega)
         have HL := Lib.hid (show stepS s r = none by rw [HST.out]; exact stepF_four_day he (by rw [← E1.out]; exact hday))
         simp only [hn1', hn3', r1, r3] at x1 x3 ⊢
         have HN1 := Lib.hid hn1'
         have HN3 := Lib.hid hn3'
         clear hn1' hn3' h4
         go_wp2_with fail
         obtain ⟨wq, hwq⟩ : ∃ y, w3.alloc (.cells #[.int .i64 n1, .string b, .int .i64 n3] 145) = y := ⟨_, rfl⟩
         have bq : Below w3.heap.size w3 wq := by rw [← hwq]; exact (Below.refl _ _).alloc (Nat.le_refl _) _
         have yx : Blk wq w3.heap.size 145 #[.int .i64 n1, .string b, .int .i64 n3] := by rw [← hwq]; exact Blk.new _ _ _
         rw [hwq]
         clear hwq
         have y4 := y3.on bq
         have HB4 := Lib.hid (bnext HB3.out bq (Nat.le_refl _))
         have hgb : g < w3.heap.size := y3.lt
         obtain ⟨wb, hwb⟩ : ∃ y, w3.heap.size = y := ⟨_, rfl⟩
         rw [hwb] at yx hgb ⊢
         have hwbw : w.heap.size ≤ wb := by have := HB3.out.size; omega
         clear bq c1 y3 hwb
         refine wp_region_held_drew (S := (fun W => Below w.heap.size w W ∧ Blk W g 213 #[.string s, .int .i64 (r.at_ : Int), .int .i64 r.stamp, .slice A n d] ∧ Blk W wb 145 #[.int .i64 n1, .string b, .int .i64 n3])) (by kernel_rfl) ?_ (fun hHeld => ?_)
         ·exact ⟨HB4.out.drew, y4.drew, yx.drew⟩
         refine tk 0 rfl ?_ ?_ ?_
         rotate_left
         ·intro w _; go_simp; try with_reducible rfl
         try simp only [Act.put, ly]
         refine tk 1 rfl ?_ ?_ ?_
         rotate_left
         ·intro w _; go_simp; try with_reducible rfl
         try simp only [Act.put, ly]
         refine tk 2 rfl ?_ ?_ ?_
         rotate_left
         ·intro w _; go_simp; try with_reducible rfl
         try simp only [Act.put, ly]
         refine tk 3 rfl ?_ ?_ ?_
         rotate_left
         ·intro w _; go_simp; try with_reducible rfl
         try simp only [Act.put, ly]
         refine tk 4 rfl ?_ ?_ ?_
         rotate_left
         ·intro w _; go_simp; try with_reducible rfl
         try simp only [Act.put, ly]
         refine tk 5 rfl ?_ ?_ ?_
         rotate_left
         ·intro w _; go_simp; try with_reducible rfl
         try simp only [Act.put, ly]
         refine tk 6 rfl ?_ ?_ ?_
         rotate_left
         ·intro w _; go_simp; try with_reducible rfl
         try simp only [Act.put, ly]
         refine wpAnyH_ready (rs := [7]) (by kernel_rfl) (by simp) ?_
         refine AllReadyH.cons rfl (fun K hK => ?_) AllReadyH.nil
         go_simp
         go_at_call 230
         (have hk := l27Ok_any ⟨n1, b, n3⟩ wb _ (by simp only; omega) (hHeld.2.2.cellAt 0 (by simp)) (hHeld.2.2.cellAt 1 (by simp)) (hHeld.2.2.cellAt 2 (by simp)))
         rw [hokx] at hk
         refine hk.mono ?_
         rintro e w5 ⟨rfl, rfl⟩
         clear hk
         go_wp2_with fail
         refine hK.out _ _ ?_ (fun hNew => ?_)
         ·exact hHeld
         clear hK K hHeld
         have hHeld := hNew
         clear hNew
         try simp only [Act.put, ly]
         refine tk 8 rfl ?_ ?_ ?_
         rotate_left
         ·intro w _; go_simp; try with_reducible rfl
         try simp only [Act.put, ly]
         refine tk 9 rfl ?_ ?_ ?_
         rotate_left
         ·intro w _; go_simp; try with_reducible rfl
         try simp only [Act.put, ly]
         refine tk 10 rfl ?_ ?_ ?_
         rotate_left
         ·intro w _; go_simp; try with_reducible rfl
         try simp only [Act.put, ly]
         refine tk 11 rfl ?_ ?_ ?_
         rotate_left
         ·intro w _; go_simp; try with_reducible rfl
         try simp only [Act.put, ly]
         refine tk 12 rfl ?_ ?_ ?_
         rotate_left
         ·intro w hSw; (try dsimp only at hSw); (have e0 := hSw.2.1.cellAt 0 (by simp)); (have e1 := hSw.2.1.cellAt 1 (by simp)); (have e2 := hSw.2.1.cellAt 2 (by simp)); (have e3 := hSw.2.1.cellAt 3 (by simp)); (have f0 := hSw.2.2.cellAt 0 (by simp)); (have f1 := hSw.2.2.cellAt 1 (by simp)); (have f2 := hSw.2.2.cellAt 2 (by simp)); go_simp; try with_reducible rfl
         try simp only [Act.put, ly]
         refine tk 13 rfl ?_ ?_ ?_
         rotate_left
         ·intro w _; go_simp; try with_reducible rfl
         try simp only [Act.put, ly]
         refine wpAnyH_ready (rs := [14]) (by kernel_rfl) (by simp) ?_
         refine AllReadyH.cons rfl (fun K hK => ?_) AllReadyH.nil
         go_simp
         go_at_call 231
         refine (l27Day2_any lo g s r _ ⟨A, n, d, hHeld.2.1, (HSL.out.on hHeld.1).low, HNE.out, hlg⟩ HOK.out (by omega)).mono ?_
         rintro e w6 ⟨rfl, m6, rfl⟩
         go_wp2_with fail
         refine hK.out _ _ ?_ (fun hNew => ?_)
         ·exact ⟨below_drewN HB4.out _, y4.drewN _, yx.drewN _⟩
         clear hK K hHeld
         have hHeld := hNew
         clear hNew
         try simp only [Act.put, ly]
         refine tk 15 rfl ?_ ?_ ?_
         rotate_left
         ·intro w _; go_simp; try with_reducible rfl
         try simp only [Act.put, ly]
         refine tk 16 rfl ?_ ?_ ?_
         rotate_left
         ·intro w _; go_simp; try with_reducible rfl
         try simp only [Act.put, ly]
         refine wpAnyH_done (by kernel_rfl) ?_ _
         go_wp2
         go_ret
         exact .inr ⟨HL.out, rfl, ⟨A, n, d, hHeld.2.1, (HSL.out.on hHeld.1).low, HNE.out, hlg⟩, hHeld.1.mono hlow⟩
    ·have HL := Lib.hid (show stepS s r = none by rw [HST.out, stepF_other h4])
     have hm1 := s1.len
     simp only [strs, List.length_map, Nat.mul_one] at hm1
     have hm4 : ((m1 : Int) != 4) = true := by rw [bne_iff_ne]; omega
     clear s1 h4
     go_wp2
     go_ret
     exact .inr ⟨HL.out, rfl, ⟨A, n, d, y1, (HSL.out.on HB1.out).low, HNE.out, hlg⟩, HB1.out.mono hlow⟩
   ·have hq : ((s[k].toNat : Int) != 10) = true := by
     rw [bne_iff_ne]
     intro e
     exact hc (by rw [← UInt8.toNat_inj]; exact Int.ofNat_inj.1 e)
    have hq2 : ((s[k].toNat : Int) == 10) = false := by
     rw [beq_eq_false_iff_ne]
     intro e
     exact hc (by rw [← UInt8.toNat_inj]; exact Int.ofNat_inj.1 e)
    have HN2 := Lib.hid (no_step HN.out hjk hlt hc)
    clear hc
    go_wp2
    go_round
    case rel => exact ⟨k + 1, by omega, by omega, by go_num, HN2.out⟩
    case measure => simp [RowKit.intOf]; omega
  ·obtain rfl : k = s.size := by omega
   have HST := Lib.hid (stepS_miss HN.out)
   have hkk : ¬ ((s.size : Int) < (s.size : Int)) := by omega
   go_wp2
   go_ret
   exact .inr ⟨HST.out, rfl, ⟨A, n, d, yb, HSL.out, HNE.out, hlg⟩, Below.refl _ _⟩
end Go.Proofs.YtjalgpioklcbfaaGreatDoor
