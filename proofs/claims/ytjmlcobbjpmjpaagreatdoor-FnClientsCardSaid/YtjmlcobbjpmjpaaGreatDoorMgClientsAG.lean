/- A line of a log, as the reference reads it. The reading of a log: whole, both sides; its code. EntriesOf, ValuesOf, SumOfWhat, both sides. Two numbers read from a text, as the program does it. -/
import Derived.Test.YtjmlcobbjpmjpaaGreatDoorMgClientsAE
import Derived.Test.YtjmlcobbjpmjpaaGreatDoorMgClientsAF
import Derived.Test.YtjmlcobbjpmjpaaGreatDoorMgClientsAA
import Derived.Test.YtjmlcobbjpmjpaaGreatDoorMgClientsAB
set_option linter.unusedVariables false
set_option linter.unusedSimpArgs false
namespace Go.Proofs.YtjmlcobbjpmjpaaGreatDoor
open Go.RowKit Go.Lib

set_option maxHeartbeats 4000000 in
set_option maxRecDepth 100000 in
theorem l27line_any (lo g : Nat) (s : ByteArray) (r : LogR) (w : World) (h : LRec lo g s w r) (hok : r.ok) (hat : r.at_ ≤ s.size) (hs : s.size ≤ 1048576) (hlow : lo ≤ w.heap.size) :
    Calls Tryz.prog 234 #[.pointer (some ⟨g, 0, none⟩)] w fun e w' => (∃ r', stepS s r = some r' ∧ e = .returned (.bool true) ∧ LRec lo g s w' r' ∧ Below lo w w') ∨ (stepS s r = none ∧ e = .returned (.bool false) ∧ LRec lo g s w' r ∧ Below lo w w') := by
  obtain ⟨A, n, d, yb, hsl, hne, hlg⟩ := h
  have hgw := yb.lt
  have hln : r.list.length = n := by have := hsl.len; rw [ens_length] at this; omega
  have hn1 : n ≤ 1048576 := by have := hok.len; omega
  have hs0 := hok.stamp0
  have hs1 := hok.stamp1
  have HOK := Lib.hid hok
  have HNE := Lib.hid hne
  have HSL := Lib.hid hsl
  clear hok hne hsl
  have o0 : w.cell? ⟨g, 0, none⟩ = some (.string s) := yb.cellAt 0 (by simp)
  have o1 : w.cell? ⟨g, 1, none⟩ = some (.int .i64 (r.at_ : Int)) := yb.cellAt 1 (by simp)
  have o2 : w.cell? ⟨g, 2, none⟩ = some (.int .i64 r.stamp) := yb.cellAt 2 (by simp)
  have o3 : w.cell? ⟨g, 3, none⟩ = some (.slice A n d) := yb.cellAt 3 (by simp)
  have hb0 : (0 : Int) ≤ (r.at_ : Int) := by omega
  have hb1 : (r.at_ : Int) ≤ (s.size : Int) := by omega
  go_enter Tryz.func234, Tryz.ntmps234
  go_wp2
  go_loop [3] (fun i => ∃ k : Nat, r.at_ ≤ k ∧ k ≤ s.size ∧ i = .int .i64 k ∧ (10 : UInt8) ∉ (s.extract r.at_ k).data.toList) (fun i => s.size - (RowKit.intOf i).toNat)
  case atStart => exact ⟨r.at_, Nat.le_refl _, hat, rfl, no_start s 10 r.at_⟩
  case round =>
    obtain ⟨k, hjk, hk, rfl, hno⟩ := hrel
    have HN := Lib.hid hno
    clear hno
    have hjki : (r.at_ : Int) ≤ (k : Int) := by omega
    have hki : (k : Int) ≤ (s.size : Int) := by omega
    have hk0 : (0 : Int) ≤ (k : Int) := by omega
    by_cases hlt : k < s.size
    · have hlti : (k : Int) < (s.size : Int) := by omega
      by_cases hc : s[k] = 10
      · have hq : ((s[k].toNat : Int) != 10) = false := by rw [hc]; rfl
        have hq2 : ((s[k].toNat : Int) == 10) = true := by rw [hc]; rfl
        have HST := Lib.hid (stepS_hit HN.out hjk hlt hc)
        have HEX := Lib.hid (extract_next hjk hlt hc)
        clear hc
        go_wp2_with fail
        refine wp_region_held_drew (S := (fun W => Below w.heap.size w W ∧ Blk W g 212 #[.string s, .int .i64 (r.at_ : Int), .int .i64 r.stamp, .slice A n d])) (by kernel_rfl) ?_ (fun hHeld => ?_)
        · exact ⟨(Below.refl _ _).drew, yb.drew⟩
        refine wpAnyH_take (i := 0) (v := ?_) rfl (by kernel_rfl) (by kernel_rfl) (by kernel_rfl) (fun _ _ _ h => h) (Or.inl ⟨by kernel_rfl, ?_⟩) (by assumption) ?_
        rotate_left 1
        · intro w hSw; (try dsimp only at hSw); go_simp; try with_reducible rfl
        try simp only [Act.put, List.getElem_toArray, List.getElem_cons_succ, List.getElem_cons_zero, List.setIfInBounds_toArray, List.set_cons_zero, List.set_cons_succ]
        refine wpAnyH_take (i := 1) (v := ?_) rfl (by kernel_rfl) (by kernel_rfl) (by kernel_rfl) (fun _ _ _ h => h) (Or.inl ⟨by kernel_rfl, ?_⟩) (by assumption) ?_
        rotate_left 1
        · intro w hSw; (try dsimp only at hSw); go_simp; try with_reducible rfl
        try simp only [Act.put, List.getElem_toArray, List.getElem_cons_succ, List.getElem_cons_zero, List.setIfInBounds_toArray, List.set_cons_zero, List.set_cons_succ]
        refine wpAnyH_take (i := 2) (v := ?_) rfl (by kernel_rfl) (by kernel_rfl) (by kernel_rfl) (fun _ _ _ h => h) (Or.inl ⟨by kernel_rfl, ?_⟩) (by assumption) ?_
        rotate_left 1
        · intro w hSw; (try dsimp only at hSw); go_simp; try with_reducible rfl
        try simp only [Act.put, List.getElem_toArray, List.getElem_cons_succ, List.getElem_cons_zero, List.setIfInBounds_toArray, List.set_cons_zero, List.set_cons_succ]
        refine wpAnyH_take (i := 3) (v := ?_) rfl (by kernel_rfl) (by kernel_rfl) (by kernel_rfl) (fun _ _ _ h => h) (Or.inl ⟨by kernel_rfl, ?_⟩) (by assumption) ?_
        rotate_left 1
        · intro w hSw; (try dsimp only at hSw); (have e0 := hSw.2.cellAt 0 (by simp)); (have e1 := hSw.2.cellAt 1 (by simp)); (have e2 := hSw.2.cellAt 2 (by simp)); (have e3 := hSw.2.cellAt 3 (by simp)); go_simp; try with_reducible rfl
        try simp only [Act.put, List.getElem_toArray, List.getElem_cons_succ, List.getElem_cons_zero, List.setIfInBounds_toArray, List.set_cons_zero, List.set_cons_succ]
        refine wpAnyH_take (i := 4) (v := ?_) rfl (by kernel_rfl) (by kernel_rfl) (by kernel_rfl) (fun _ _ _ h => h) (Or.inl ⟨by kernel_rfl, ?_⟩) (by assumption) ?_
        rotate_left 1
        · intro w hSw; (try dsimp only at hSw); go_simp; try with_reducible rfl
        try simp only [Act.put, List.getElem_toArray, List.getElem_cons_succ, List.getElem_cons_zero, List.setIfInBounds_toArray, List.set_cons_zero, List.set_cons_succ]
        refine wpAnyH_take (i := 5) (v := ?_) rfl (by kernel_rfl) (by kernel_rfl) (by kernel_rfl) (fun _ _ _ h => h) (Or.inl ⟨by kernel_rfl, ?_⟩) (by assumption) ?_
        rotate_left 1
        · intro w hSw; (try dsimp only at hSw); go_simp; try with_reducible rfl
        try simp only [Act.put, List.getElem_toArray, List.getElem_cons_succ, List.getElem_cons_zero, List.setIfInBounds_toArray, List.set_cons_zero, List.set_cons_succ]
        refine wpAnyH_take (i := 6) (v := ?_) rfl (by kernel_rfl) (by kernel_rfl) (by kernel_rfl) (fun _ _ _ h => h) (Or.inl ⟨by kernel_rfl, ?_⟩) (by assumption) ?_
        rotate_left 1
        · intro w hSw; (try dsimp only at hSw); go_simp; try with_reducible rfl
        try simp only [Act.put, List.getElem_toArray, List.getElem_cons_succ, List.getElem_cons_zero, List.setIfInBounds_toArray, List.set_cons_zero, List.set_cons_succ]
        refine wpAnyH_take (i := 7) (v := ?_) rfl (by kernel_rfl) (by kernel_rfl) (by kernel_rfl) (fun _ _ _ h => h) (Or.inl ⟨by kernel_rfl, ?_⟩) (by assumption) ?_
        rotate_left 1
        · intro w hSw; (try dsimp only at hSw); (have e0 := hSw.2.cellAt 0 (by simp)); (have e1 := hSw.2.cellAt 1 (by simp)); (have e2 := hSw.2.cellAt 2 (by simp)); (have e3 := hSw.2.cellAt 3 (by simp)); go_simp; try with_reducible rfl
        try simp only [Act.put, List.getElem_toArray, List.getElem_cons_succ, List.getElem_cons_zero, List.setIfInBounds_toArray, List.set_cons_zero, List.set_cons_succ]
        refine wpAnyH_take (i := 8) (v := ?_) rfl (by kernel_rfl) (by kernel_rfl) (by kernel_rfl) (fun _ _ _ h => h) (Or.inl ⟨by kernel_rfl, ?_⟩) (by assumption) ?_
        rotate_left 1
        · intro w hSw; (try dsimp only at hSw); go_simp; try with_reducible rfl
        try simp only [Act.put, List.getElem_toArray, List.getElem_cons_succ, List.getElem_cons_zero, List.setIfInBounds_toArray, List.set_cons_zero, List.set_cons_succ]
        refine wpAnyH_take (i := 9) (v := ?_) rfl (by kernel_rfl) (by kernel_rfl) (by kernel_rfl) (fun _ _ _ h => h) (Or.inl ⟨by kernel_rfl, ?_⟩) (by assumption) ?_
        rotate_left 1
        · intro w hSw; (try dsimp only at hSw); go_simp; try with_reducible rfl
        try simp only [Act.put, List.getElem_toArray, List.getElem_cons_succ, List.getElem_cons_zero, List.setIfInBounds_toArray, List.set_cons_zero, List.set_cons_succ]
        refine wpAnyH_ready (rs := [10]) (by kernel_rfl) (by simp) ?_
        refine AllReadyH.cons rfl (fun K hK => ?_) AllReadyH.nil
        go_simp
        go_at_call 111
        refine (l01Split_any (s.extract r.at_ k) 32 _ (by rw [ByteArray.size_extract]; omega)).mono ?_
        rintro e w1 ⟨A1, m1, d1, rfl, s1, b1⟩
        go_wp2_with fail
        refine hK.out _ _ ?_ (fun hNew => ?_)
        · exact ⟨bnext hHeld.1 b1 (Nat.le_refl _), hHeld.2.on b1⟩
        clear hK K hHeld
        have hHeld := hNew
        clear hNew
        try simp only [Act.put, List.getElem_toArray, List.getElem_cons_succ, List.getElem_cons_zero, List.setIfInBounds_toArray, List.set_cons_zero, List.set_cons_succ]
        refine wpAnyH_take (i := 11) (v := ?_) rfl (by kernel_rfl) (by kernel_rfl) (by kernel_rfl) (fun _ _ _ h => h) (Or.inl ⟨by kernel_rfl, ?_⟩) (by assumption) ?_
        rotate_left 1
        · intro w hSw; (try dsimp only at hSw); go_simp; try with_reducible rfl
        try simp only [Act.put, List.getElem_toArray, List.getElem_cons_succ, List.getElem_cons_zero, List.setIfInBounds_toArray, List.set_cons_zero, List.set_cons_succ]
        refine wpAnyH_done (by kernel_rfl) ?_ _
        have HB1 := Lib.hid hHeld.1
        have y1 := hHeld.2
        clear hHeld o0 o1 o2 o3
        obtain ⟨line, hline⟩ : ∃ y, s.extract r.at_ k = y := ⟨_, rfl⟩
        have hlsz : line.size ≤ 1048576 := by rw [← hline, ByteArray.size_extract]; omega
        have hlk : r.at_ + line.size = k := by rw [← hline, ByteArray.size_extract]; omega
        rw [hline] at HST HEX s1
        by_cases h4 : (splitS 32 line).length = 4
        · obtain ⟨a, b, c, dd, he⟩ := four_of h4
          obtain ⟨za, zb, zc, zd⟩ := four_sizes he
          rw [he] at s1
          obtain ⟨rfl, sg, rfl, c0, c1, c2, c3⟩ := sl_strs4 s1
          clear s1 c3
          go_wp2_with fail
          refine (l01Number_any a _ (by omega)).mono ?_
          rintro e w2 ⟨rfl, b2⟩
          replace c1 := cell_on b2 c1
          replace c2 := cell_on b2 c2
          have y2 := y1.on b2
          have HB2 := Lib.hid (bnext HB1.out b2 (Nat.le_refl _))
          clear b2 c0 y1
          go_wp2_with fail
          refine (l01Number_any c _ (by omega)).mono ?_
          rintro e w3 ⟨rfl, b3⟩
          replace c1 := cell_on b3 c1
          have y3 := y2.on b3
          have HB3 := Lib.hid (bnext HB2.out b3 (Nat.le_refl _))
          clear b3 c2 y2
          have x1 := readN_bd a.data.toList
          have x3 := readN_bd c.data.toList
          obtain ⟨n1, hn1'⟩ : ∃ v, (readN a.data.toList).1 = v := ⟨_, rfl⟩
          obtain ⟨n3, hn3'⟩ : ∃ v, (readN c.data.toList).1 = v := ⟨_, rfl⟩
          have hxg : En.good ⟨n1, b, n3⟩ := ⟨⟨by simp only; omega, by simp only; omega⟩, by simp only; omega, ⟨by simp only; omega, by simp only; omega⟩⟩
          have hxs : En.small ⟨n1, b, n3⟩ := by unfold En.small; simp only; omega
          rcases d1 : isDec a.data.toList with _ | _
          · have r1 : (readN a.data.toList).2 = false := by rw [readN_no d1]
            obtain ⟨q3, r3⟩ : ∃ v, (readN c.data.toList).2 = v := ⟨_, rfl⟩
            have HL := Lib.hid (show stepS s r = none by rw [HST.out]; exact stepF_four_no he (wordsF_no1 d1))
            simp only [hn1', hn3', r1, r3] at x1 x3 ⊢
            have HN1 := Lib.hid hn1'
            have HN3 := Lib.hid hn3'
            clear hn1' hn3' h4
            go_wp2_with fail
            obtain ⟨wq, hwq⟩ : ∃ y, w3.alloc (.cells #[.int .i64 n1, .string b, .int .i64 n3] 253) = y := ⟨_, rfl⟩
            have bq : Below w3.heap.size w3 wq := by rw [← hwq]; exact (Below.refl _ _).alloc (Nat.le_refl _) _
            have yx : Blk wq w3.heap.size 253 #[.int .i64 n1, .string b, .int .i64 n3] := by rw [← hwq]; exact Blk.new _ _ _
            rw [hwq]
            clear hwq
            have y4 := y3.on bq
            have HB4 := Lib.hid (bnext HB3.out bq (Nat.le_refl _))
            have hgb : g < w3.heap.size := y3.lt
            obtain ⟨wb, hwb⟩ : ∃ y, w3.heap.size = y := ⟨_, rfl⟩
            rw [hwb] at yx hgb ⊢
            have hwbw : w.heap.size ≤ wb := by have := HB3.out.size; omega
            clear bq c1 y3 hwb
            refine wp_region_held_drew (S := (fun W => Below w.heap.size w W ∧ Blk W g 212 #[.string s, .int .i64 (r.at_ : Int), .int .i64 r.stamp, .slice A n d] ∧ Blk W wb 253 #[.int .i64 n1, .string b, .int .i64 n3])) (by kernel_rfl) ?_ (fun hHeld => ?_)
            · exact ⟨HB4.out.drew, y4.drew, yx.drew⟩
            refine wpAnyH_take (i := 0) (v := ?_) rfl (by kernel_rfl) (by kernel_rfl) (by kernel_rfl) (fun _ _ _ h => h) (Or.inl ⟨by kernel_rfl, ?_⟩) (by assumption) ?_
            rotate_left 1
            · intro w hSw; (try dsimp only at hSw); go_simp; try with_reducible rfl
            try simp only [Act.put, List.getElem_toArray, List.getElem_cons_succ, List.getElem_cons_zero, List.setIfInBounds_toArray, List.set_cons_zero, List.set_cons_succ]
            refine wpAnyH_take (i := 1) (v := ?_) rfl (by kernel_rfl) (by kernel_rfl) (by kernel_rfl) (fun _ _ _ h => h) (Or.inl ⟨by kernel_rfl, ?_⟩) (by assumption) ?_
            rotate_left 1
            · intro w hSw; (try dsimp only at hSw); go_simp; try with_reducible rfl
            try simp only [Act.put, List.getElem_toArray, List.getElem_cons_succ, List.getElem_cons_zero, List.setIfInBounds_toArray, List.set_cons_zero, List.set_cons_succ]
            refine wpAnyH_take (i := 2) (v := ?_) rfl (by kernel_rfl) (by kernel_rfl) (by kernel_rfl) (fun _ _ _ h => h) (Or.inl ⟨by kernel_rfl, ?_⟩) (by assumption) ?_
            rotate_left 1
            · intro w hSw; (try dsimp only at hSw); go_simp; try with_reducible rfl
            try simp only [Act.put, List.getElem_toArray, List.getElem_cons_succ, List.getElem_cons_zero, List.setIfInBounds_toArray, List.set_cons_zero, List.set_cons_succ]
            refine wpAnyH_take (i := 3) (v := undef) rfl (by kernel_rfl) (by kernel_rfl) (by kernel_rfl) (fun _ _ _ h => h) (Or.inr ⟨by kernel_rfl, rfl⟩) (by assumption) ?_
            try simp only [Act.put, List.getElem_toArray, List.getElem_cons_succ, List.getElem_cons_zero, List.setIfInBounds_toArray, List.set_cons_zero, List.set_cons_succ]
            refine wpAnyH_take (i := 4) (v := undef) rfl (by kernel_rfl) (by kernel_rfl) (by kernel_rfl) (fun _ _ _ h => h) (Or.inr ⟨by kernel_rfl, rfl⟩) (by assumption) ?_
            try simp only [Act.put, List.getElem_toArray, List.getElem_cons_succ, List.getElem_cons_zero, List.setIfInBounds_toArray, List.set_cons_zero, List.set_cons_succ]
            refine wpAnyH_take (i := 5) (v := ?_) rfl (by kernel_rfl) (by kernel_rfl) (by kernel_rfl) (fun _ _ _ h => h) (Or.inl ⟨by kernel_rfl, ?_⟩) (by assumption) ?_
            rotate_left 1
            · intro w hSw; (try dsimp only at hSw); go_simp; try with_reducible rfl
            try simp only [Act.put, List.getElem_toArray, List.getElem_cons_succ, List.getElem_cons_zero, List.setIfInBounds_toArray, List.set_cons_zero, List.set_cons_succ]
            refine wpAnyH_take (i := 6) (v := ?_) rfl (by kernel_rfl) (by kernel_rfl) (by kernel_rfl) (fun _ _ _ h => h) (Or.inl ⟨by kernel_rfl, ?_⟩) (by assumption) ?_
            rotate_left 1
            · intro w hSw; (try dsimp only at hSw); go_simp; try with_reducible rfl
            try simp only [Act.put, List.getElem_toArray, List.getElem_cons_succ, List.getElem_cons_zero, List.setIfInBounds_toArray, List.set_cons_zero, List.set_cons_succ]
            refine wpAnyH_take (i := 7) (v := undef) rfl (by kernel_rfl) (by kernel_rfl) (by kernel_rfl) (fun _ _ _ h => h) (Or.inr ⟨by kernel_rfl, rfl⟩) (by assumption) ?_
            try simp only [Act.put, List.getElem_toArray, List.getElem_cons_succ, List.getElem_cons_zero, List.setIfInBounds_toArray, List.set_cons_zero, List.set_cons_succ]
            refine wpAnyH_take (i := 8) (v := undef) rfl (by kernel_rfl) (by kernel_rfl) (by kernel_rfl) (fun _ _ _ h => h) (Or.inr ⟨by kernel_rfl, rfl⟩) (by assumption) ?_
            try simp only [Act.put, List.getElem_toArray, List.getElem_cons_succ, List.getElem_cons_zero, List.setIfInBounds_toArray, List.set_cons_zero, List.set_cons_succ]
            refine wpAnyH_take (i := 9) (v := ?_) rfl (by kernel_rfl) (by kernel_rfl) (by kernel_rfl) (fun _ _ _ h => h) (Or.inl ⟨by kernel_rfl, ?_⟩) (by assumption) ?_
            rotate_left 1
            · intro w hSw; (try dsimp only at hSw); go_simp; try with_reducible rfl
            try simp only [Act.put, List.getElem_toArray, List.getElem_cons_succ, List.getElem_cons_zero, List.setIfInBounds_toArray, List.set_cons_zero, List.set_cons_succ]
            refine wpAnyH_take (i := 10) (v := ?_) rfl (by kernel_rfl) (by kernel_rfl) (by kernel_rfl) (fun _ _ _ h => h) (Or.inl ⟨by kernel_rfl, ?_⟩) (by assumption) ?_
            rotate_left 1
            · intro w hSw; (try dsimp only at hSw); go_simp; try with_reducible rfl
            try simp only [Act.put, List.getElem_toArray, List.getElem_cons_succ, List.getElem_cons_zero, List.setIfInBounds_toArray, List.set_cons_zero, List.set_cons_succ]
            refine wpAnyH_take (i := 11) (v := undef) rfl (by kernel_rfl) (by kernel_rfl) (by kernel_rfl) (fun _ _ _ h => h) (Or.inr ⟨by kernel_rfl, rfl⟩) (by assumption) ?_
            try simp only [Act.put, List.getElem_toArray, List.getElem_cons_succ, List.getElem_cons_zero, List.setIfInBounds_toArray, List.set_cons_zero, List.set_cons_succ]
            refine wpAnyH_take (i := 12) (v := undef) rfl (by kernel_rfl) (by kernel_rfl) (by kernel_rfl) (fun _ _ _ h => h) (Or.inr ⟨by kernel_rfl, rfl⟩) (by assumption) ?_
            try simp only [Act.put, List.getElem_toArray, List.getElem_cons_succ, List.getElem_cons_zero, List.setIfInBounds_toArray, List.set_cons_zero, List.set_cons_succ]
            refine wpAnyH_take (i := 13) (v := undef) rfl (by kernel_rfl) (by kernel_rfl) (by kernel_rfl) (fun _ _ _ h => h) (Or.inr ⟨by kernel_rfl, rfl⟩) (by assumption) ?_
            try simp only [Act.put, List.getElem_toArray, List.getElem_cons_succ, List.getElem_cons_zero, List.setIfInBounds_toArray, List.set_cons_zero, List.set_cons_succ]
            refine wpAnyH_take (i := 14) (v := undef) rfl (by kernel_rfl) (by kernel_rfl) (by kernel_rfl) (fun _ _ _ h => h) (Or.inr ⟨by kernel_rfl, rfl⟩) (by assumption) ?_
            try simp only [Act.put, List.getElem_toArray, List.getElem_cons_succ, List.getElem_cons_zero, List.setIfInBounds_toArray, List.set_cons_zero, List.set_cons_succ]
            refine wpAnyH_take (i := 15) (v := undef) rfl (by kernel_rfl) (by kernel_rfl) (by kernel_rfl) (fun _ _ _ h => h) (Or.inr ⟨by kernel_rfl, rfl⟩) (by assumption) ?_
            try simp only [Act.put, List.getElem_toArray, List.getElem_cons_succ, List.getElem_cons_zero, List.setIfInBounds_toArray, List.set_cons_zero, List.set_cons_succ]
            refine wpAnyH_take (i := 16) (v := ?_) rfl (by kernel_rfl) (by kernel_rfl) (by kernel_rfl) (fun _ _ _ h => h) (Or.inl ⟨by kernel_rfl, ?_⟩) (by assumption) ?_
            rotate_left 1
            · intro w hSw; (try dsimp only at hSw); go_simp; try with_reducible rfl
            try simp only [Act.put, List.getElem_toArray, List.getElem_cons_succ, List.getElem_cons_zero, List.setIfInBounds_toArray, List.set_cons_zero, List.set_cons_succ]
            refine wpAnyH_done (by kernel_rfl) ?_ _
            go_wp2
            go_ret
            exact .inr ⟨HL.out, rfl, ⟨A, n, d, hHeld.2.1, (HSL.out.on hHeld.1).low, HNE.out, hlg⟩, hHeld.1.mono hlow⟩
          · have r1 : (readN a.data.toList).2 = true := by rw [readN_yes d1]
            rcases d3 : isDec c.data.toList with _ | _
            · have r3 : (readN c.data.toList).2 = false := by rw [readN_no d3]
              have HL := Lib.hid (show stepS s r = none by rw [HST.out]; exact stepF_four_no he (wordsF_no2 d3))
              simp only [hn1', hn3', r1, r3] at x1 x3 ⊢
              have HN1 := Lib.hid hn1'
              have HN3 := Lib.hid hn3'
              clear hn1' hn3' h4
              go_wp2_with fail
              obtain ⟨wq, hwq⟩ : ∃ y, w3.alloc (.cells #[.int .i64 n1, .string b, .int .i64 n3] 253) = y := ⟨_, rfl⟩
              have bq : Below w3.heap.size w3 wq := by rw [← hwq]; exact (Below.refl _ _).alloc (Nat.le_refl _) _
              have yx : Blk wq w3.heap.size 253 #[.int .i64 n1, .string b, .int .i64 n3] := by rw [← hwq]; exact Blk.new _ _ _
              rw [hwq]
              clear hwq
              have y4 := y3.on bq
              have HB4 := Lib.hid (bnext HB3.out bq (Nat.le_refl _))
              have hgb : g < w3.heap.size := y3.lt
              obtain ⟨wb, hwb⟩ : ∃ y, w3.heap.size = y := ⟨_, rfl⟩
              rw [hwb] at yx hgb ⊢
              have hwbw : w.heap.size ≤ wb := by have := HB3.out.size; omega
              clear bq c1 y3 hwb
              refine wp_region_held_drew (S := (fun W => Below w.heap.size w W ∧ Blk W g 212 #[.string s, .int .i64 (r.at_ : Int), .int .i64 r.stamp, .slice A n d] ∧ Blk W wb 253 #[.int .i64 n1, .string b, .int .i64 n3])) (by kernel_rfl) ?_ (fun hHeld => ?_)
              · exact ⟨HB4.out.drew, y4.drew, yx.drew⟩
              refine wpAnyH_take (i := 0) (v := ?_) rfl (by kernel_rfl) (by kernel_rfl) (by kernel_rfl) (fun _ _ _ h => h) (Or.inl ⟨by kernel_rfl, ?_⟩) (by assumption) ?_
              rotate_left 1
              · intro w hSw; (try dsimp only at hSw); go_simp; try with_reducible rfl
              try simp only [Act.put, List.getElem_toArray, List.getElem_cons_succ, List.getElem_cons_zero, List.setIfInBounds_toArray, List.set_cons_zero, List.set_cons_succ]
              refine wpAnyH_take (i := 1) (v := ?_) rfl (by kernel_rfl) (by kernel_rfl) (by kernel_rfl) (fun _ _ _ h => h) (Or.inl ⟨by kernel_rfl, ?_⟩) (by assumption) ?_
              rotate_left 1
              · intro w hSw; (try dsimp only at hSw); go_simp; try with_reducible rfl
              try simp only [Act.put, List.getElem_toArray, List.getElem_cons_succ, List.getElem_cons_zero, List.setIfInBounds_toArray, List.set_cons_zero, List.set_cons_succ]
              refine wpAnyH_take (i := 2) (v := ?_) rfl (by kernel_rfl) (by kernel_rfl) (by kernel_rfl) (fun _ _ _ h => h) (Or.inl ⟨by kernel_rfl, ?_⟩) (by assumption) ?_
              rotate_left 1
              · intro w hSw; (try dsimp only at hSw); go_simp; try with_reducible rfl
              try simp only [Act.put, List.getElem_toArray, List.getElem_cons_succ, List.getElem_cons_zero, List.setIfInBounds_toArray, List.set_cons_zero, List.set_cons_succ]
              refine wpAnyH_take (i := 3) (v := ?_) rfl (by kernel_rfl) (by kernel_rfl) (by kernel_rfl) (fun _ _ _ h => h) (Or.inl ⟨by kernel_rfl, ?_⟩) (by assumption) ?_
              rotate_left 1
              · intro w hSw; (try dsimp only at hSw); go_simp; try with_reducible rfl
              try simp only [Act.put, List.getElem_toArray, List.getElem_cons_succ, List.getElem_cons_zero, List.setIfInBounds_toArray, List.set_cons_zero, List.set_cons_succ]
              refine wpAnyH_take (i := 4) (v := ?_) rfl (by kernel_rfl) (by kernel_rfl) (by kernel_rfl) (fun _ _ _ h => h) (Or.inl ⟨by kernel_rfl, ?_⟩) (by assumption) ?_
              rotate_left 1
              · intro w hSw; (try dsimp only at hSw); go_simp; try with_reducible rfl
              try simp only [Act.put, List.getElem_toArray, List.getElem_cons_succ, List.getElem_cons_zero, List.setIfInBounds_toArray, List.set_cons_zero, List.set_cons_succ]
              refine wpAnyH_take (i := 5) (v := ?_) rfl (by kernel_rfl) (by kernel_rfl) (by kernel_rfl) (fun _ _ _ h => h) (Or.inl ⟨by kernel_rfl, ?_⟩) (by assumption) ?_
              rotate_left 1
              · intro w hSw; (try dsimp only at hSw); go_simp; try with_reducible rfl
              try simp only [Act.put, List.getElem_toArray, List.getElem_cons_succ, List.getElem_cons_zero, List.setIfInBounds_toArray, List.set_cons_zero, List.set_cons_succ]
              refine wpAnyH_take (i := 6) (v := ?_) rfl (by kernel_rfl) (by kernel_rfl) (by kernel_rfl) (fun _ _ _ h => h) (Or.inl ⟨by kernel_rfl, ?_⟩) (by assumption) ?_
              rotate_left 1
              · intro w hSw; (try dsimp only at hSw); go_simp; try with_reducible rfl
              try simp only [Act.put, List.getElem_toArray, List.getElem_cons_succ, List.getElem_cons_zero, List.setIfInBounds_toArray, List.set_cons_zero, List.set_cons_succ]
              refine wpAnyH_take (i := 7) (v := undef) rfl (by kernel_rfl) (by kernel_rfl) (by kernel_rfl) (fun _ _ _ h => h) (Or.inr ⟨by kernel_rfl, rfl⟩) (by assumption) ?_
              try simp only [Act.put, List.getElem_toArray, List.getElem_cons_succ, List.getElem_cons_zero, List.setIfInBounds_toArray, List.set_cons_zero, List.set_cons_succ]
              refine wpAnyH_take (i := 8) (v := undef) rfl (by kernel_rfl) (by kernel_rfl) (by kernel_rfl) (fun _ _ _ h => h) (Or.inr ⟨by kernel_rfl, rfl⟩) (by assumption) ?_
              try simp only [Act.put, List.getElem_toArray, List.getElem_cons_succ, List.getElem_cons_zero, List.setIfInBounds_toArray, List.set_cons_zero, List.set_cons_succ]
              refine wpAnyH_take (i := 9) (v := ?_) rfl (by kernel_rfl) (by kernel_rfl) (by kernel_rfl) (fun _ _ _ h => h) (Or.inl ⟨by kernel_rfl, ?_⟩) (by assumption) ?_
              rotate_left 1
              · intro w hSw; (try dsimp only at hSw); go_simp; try with_reducible rfl
              try simp only [Act.put, List.getElem_toArray, List.getElem_cons_succ, List.getElem_cons_zero, List.setIfInBounds_toArray, List.set_cons_zero, List.set_cons_succ]
              refine wpAnyH_take (i := 10) (v := ?_) rfl (by kernel_rfl) (by kernel_rfl) (by kernel_rfl) (fun _ _ _ h => h) (Or.inl ⟨by kernel_rfl, ?_⟩) (by assumption) ?_
              rotate_left 1
              · intro w hSw; (try dsimp only at hSw); go_simp; try with_reducible rfl
              try simp only [Act.put, List.getElem_toArray, List.getElem_cons_succ, List.getElem_cons_zero, List.setIfInBounds_toArray, List.set_cons_zero, List.set_cons_succ]
              refine wpAnyH_take (i := 11) (v := undef) rfl (by kernel_rfl) (by kernel_rfl) (by kernel_rfl) (fun _ _ _ h => h) (Or.inr ⟨by kernel_rfl, rfl⟩) (by assumption) ?_
              try simp only [Act.put, List.getElem_toArray, List.getElem_cons_succ, List.getElem_cons_zero, List.setIfInBounds_toArray, List.set_cons_zero, List.set_cons_succ]
              refine wpAnyH_take (i := 12) (v := undef) rfl (by kernel_rfl) (by kernel_rfl) (by kernel_rfl) (fun _ _ _ h => h) (Or.inr ⟨by kernel_rfl, rfl⟩) (by assumption) ?_
              try simp only [Act.put, List.getElem_toArray, List.getElem_cons_succ, List.getElem_cons_zero, List.setIfInBounds_toArray, List.set_cons_zero, List.set_cons_succ]
              refine wpAnyH_take (i := 13) (v := undef) rfl (by kernel_rfl) (by kernel_rfl) (by kernel_rfl) (fun _ _ _ h => h) (Or.inr ⟨by kernel_rfl, rfl⟩) (by assumption) ?_
              try simp only [Act.put, List.getElem_toArray, List.getElem_cons_succ, List.getElem_cons_zero, List.setIfInBounds_toArray, List.set_cons_zero, List.set_cons_succ]
              refine wpAnyH_take (i := 14) (v := undef) rfl (by kernel_rfl) (by kernel_rfl) (by kernel_rfl) (fun _ _ _ h => h) (Or.inr ⟨by kernel_rfl, rfl⟩) (by assumption) ?_
              try simp only [Act.put, List.getElem_toArray, List.getElem_cons_succ, List.getElem_cons_zero, List.setIfInBounds_toArray, List.set_cons_zero, List.set_cons_succ]
              refine wpAnyH_take (i := 15) (v := undef) rfl (by kernel_rfl) (by kernel_rfl) (by kernel_rfl) (fun _ _ _ h => h) (Or.inr ⟨by kernel_rfl, rfl⟩) (by assumption) ?_
              try simp only [Act.put, List.getElem_toArray, List.getElem_cons_succ, List.getElem_cons_zero, List.setIfInBounds_toArray, List.set_cons_zero, List.set_cons_succ]
              refine wpAnyH_take (i := 16) (v := ?_) rfl (by kernel_rfl) (by kernel_rfl) (by kernel_rfl) (fun _ _ _ h => h) (Or.inl ⟨by kernel_rfl, ?_⟩) (by assumption) ?_
              rotate_left 1
              · intro w hSw; (try dsimp only at hSw); go_simp; try with_reducible rfl
              try simp only [Act.put, List.getElem_toArray, List.getElem_cons_succ, List.getElem_cons_zero, List.setIfInBounds_toArray, List.set_cons_zero, List.set_cons_succ]
              refine wpAnyH_done (by kernel_rfl) ?_ _
              go_wp2
              go_ret
              exact .inr ⟨HL.out, rfl, ⟨A, n, d, hHeld.2.1, (HSL.out.on hHeld.1).low, HNE.out, hlg⟩, hHeld.1.mono hlow⟩
            · have r3 : (readN c.data.toList).2 = true := by rw [readN_yes d3]
              have E1 := readN_fst d1
              have E3 := readN_fst d3
              rw [hn1'] at E1
              rw [hn3'] at E3
              replace E1 := Lib.hid E1
              replace E3 := Lib.hid E3
              rcases hokx : okEn ⟨n1, b, n3⟩ with _ | _
              · have HL := Lib.hid (show stepS s r = none by rw [HST.out]; exact stepF_four_no he (wordsF_no4 (by rw [← E1.out, ← E3.out]; exact hokx)))
                simp only [hn1', hn3', r1, r3] at x1 x3 ⊢
                have HN1 := Lib.hid hn1'
                have HN3 := Lib.hid hn3'
                clear hn1' hn3' h4
                go_wp2_with fail
                obtain ⟨wq, hwq⟩ : ∃ y, w3.alloc (.cells #[.int .i64 n1, .string b, .int .i64 n3] 253) = y := ⟨_, rfl⟩
                have bq : Below w3.heap.size w3 wq := by rw [← hwq]; exact (Below.refl _ _).alloc (Nat.le_refl _) _
                have yx : Blk wq w3.heap.size 253 #[.int .i64 n1, .string b, .int .i64 n3] := by rw [← hwq]; exact Blk.new _ _ _
                rw [hwq]
                clear hwq
                have y4 := y3.on bq
                have HB4 := Lib.hid (bnext HB3.out bq (Nat.le_refl _))
                have hgb : g < w3.heap.size := y3.lt
                obtain ⟨wb, hwb⟩ : ∃ y, w3.heap.size = y := ⟨_, rfl⟩
                rw [hwb] at yx hgb ⊢
                have hwbw : w.heap.size ≤ wb := by have := HB3.out.size; omega
                clear bq c1 y3 hwb
                refine wp_region_held_drew (S := (fun W => Below w.heap.size w W ∧ Blk W g 212 #[.string s, .int .i64 (r.at_ : Int), .int .i64 r.stamp, .slice A n d] ∧ Blk W wb 253 #[.int .i64 n1, .string b, .int .i64 n3])) (by kernel_rfl) ?_ (fun hHeld => ?_)
                · exact ⟨HB4.out.drew, y4.drew, yx.drew⟩
                refine wpAnyH_take (i := 0) (v := ?_) rfl (by kernel_rfl) (by kernel_rfl) (by kernel_rfl) (fun _ _ _ h => h) (Or.inl ⟨by kernel_rfl, ?_⟩) (by assumption) ?_
                rotate_left 1
                · intro w hSw; (try dsimp only at hSw); go_simp; try with_reducible rfl
                try simp only [Act.put, List.getElem_toArray, List.getElem_cons_succ, List.getElem_cons_zero, List.setIfInBounds_toArray, List.set_cons_zero, List.set_cons_succ]
                refine wpAnyH_take (i := 1) (v := ?_) rfl (by kernel_rfl) (by kernel_rfl) (by kernel_rfl) (fun _ _ _ h => h) (Or.inl ⟨by kernel_rfl, ?_⟩) (by assumption) ?_
                rotate_left 1
                · intro w hSw; (try dsimp only at hSw); go_simp; try with_reducible rfl
                try simp only [Act.put, List.getElem_toArray, List.getElem_cons_succ, List.getElem_cons_zero, List.setIfInBounds_toArray, List.set_cons_zero, List.set_cons_succ]
                refine wpAnyH_take (i := 2) (v := ?_) rfl (by kernel_rfl) (by kernel_rfl) (by kernel_rfl) (fun _ _ _ h => h) (Or.inl ⟨by kernel_rfl, ?_⟩) (by assumption) ?_
                rotate_left 1
                · intro w hSw; (try dsimp only at hSw); go_simp; try with_reducible rfl
                try simp only [Act.put, List.getElem_toArray, List.getElem_cons_succ, List.getElem_cons_zero, List.setIfInBounds_toArray, List.set_cons_zero, List.set_cons_succ]
                refine wpAnyH_take (i := 3) (v := ?_) rfl (by kernel_rfl) (by kernel_rfl) (by kernel_rfl) (fun _ _ _ h => h) (Or.inl ⟨by kernel_rfl, ?_⟩) (by assumption) ?_
                rotate_left 1
                · intro w hSw; (try dsimp only at hSw); go_simp; try with_reducible rfl
                try simp only [Act.put, List.getElem_toArray, List.getElem_cons_succ, List.getElem_cons_zero, List.setIfInBounds_toArray, List.set_cons_zero, List.set_cons_succ]
                refine wpAnyH_take (i := 4) (v := ?_) rfl (by kernel_rfl) (by kernel_rfl) (by kernel_rfl) (fun _ _ _ h => h) (Or.inl ⟨by kernel_rfl, ?_⟩) (by assumption) ?_
                rotate_left 1
                · intro w hSw; (try dsimp only at hSw); go_simp; try with_reducible rfl
                try simp only [Act.put, List.getElem_toArray, List.getElem_cons_succ, List.getElem_cons_zero, List.setIfInBounds_toArray, List.set_cons_zero, List.set_cons_succ]
                refine wpAnyH_take (i := 5) (v := ?_) rfl (by kernel_rfl) (by kernel_rfl) (by kernel_rfl) (fun _ _ _ h => h) (Or.inl ⟨by kernel_rfl, ?_⟩) (by assumption) ?_
                rotate_left 1
                · intro w hSw; (try dsimp only at hSw); go_simp; try with_reducible rfl
                try simp only [Act.put, List.getElem_toArray, List.getElem_cons_succ, List.getElem_cons_zero, List.setIfInBounds_toArray, List.set_cons_zero, List.set_cons_succ]
                refine wpAnyH_take (i := 6) (v := ?_) rfl (by kernel_rfl) (by kernel_rfl) (by kernel_rfl) (fun _ _ _ h => h) (Or.inl ⟨by kernel_rfl, ?_⟩) (by assumption) ?_
                rotate_left 1
                · intro w hSw; (try dsimp only at hSw); go_simp; try with_reducible rfl
                try simp only [Act.put, List.getElem_toArray, List.getElem_cons_succ, List.getElem_cons_zero, List.setIfInBounds_toArray, List.set_cons_zero, List.set_cons_succ]
                refine wpAnyH_ready (rs := [7]) (by kernel_rfl) (by simp) ?_
                refine AllReadyH.cons rfl (fun K hK => ?_) AllReadyH.nil
                go_simp
                go_at_call 257
                (have hk := l27Ok_any ⟨n1, b, n3⟩ wb _ (by simp only; omega) (hHeld.2.2.cellAt 0 (by simp)) (hHeld.2.2.cellAt 1 (by simp)) (hHeld.2.2.cellAt 2 (by simp)))
                rw [hokx] at hk
                refine hk.mono ?_
                rintro e w5 ⟨rfl, rfl⟩
                clear hk
                go_wp2_with fail
                refine hK.out _ _ ?_ (fun hNew => ?_)
                · exact hHeld
                clear hK K hHeld
                have hHeld := hNew
                clear hNew
                try simp only [Act.put, List.getElem_toArray, List.getElem_cons_succ, List.getElem_cons_zero, List.setIfInBounds_toArray, List.set_cons_zero, List.set_cons_succ]
                refine wpAnyH_take (i := 8) (v := ?_) rfl (by kernel_rfl) (by kernel_rfl) (by kernel_rfl) (fun _ _ _ h => h) (Or.inl ⟨by kernel_rfl, ?_⟩) (by assumption) ?_
                rotate_left 1
                · intro w hSw; (try dsimp only at hSw); go_simp; try with_reducible rfl
                try simp only [Act.put, List.getElem_toArray, List.getElem_cons_succ, List.getElem_cons_zero, List.setIfInBounds_toArray, List.set_cons_zero, List.set_cons_succ]
                refine wpAnyH_take (i := 9) (v := ?_) rfl (by kernel_rfl) (by kernel_rfl) (by kernel_rfl) (fun _ _ _ h => h) (Or.inl ⟨by kernel_rfl, ?_⟩) (by assumption) ?_
                rotate_left 1
                · intro w hSw; (try dsimp only at hSw); go_simp; try with_reducible rfl
                try simp only [Act.put, List.getElem_toArray, List.getElem_cons_succ, List.getElem_cons_zero, List.setIfInBounds_toArray, List.set_cons_zero, List.set_cons_succ]
                refine wpAnyH_take (i := 10) (v := ?_) rfl (by kernel_rfl) (by kernel_rfl) (by kernel_rfl) (fun _ _ _ h => h) (Or.inl ⟨by kernel_rfl, ?_⟩) (by assumption) ?_
                rotate_left 1
                · intro w hSw; (try dsimp only at hSw); go_simp; try with_reducible rfl
                try simp only [Act.put, List.getElem_toArray, List.getElem_cons_succ, List.getElem_cons_zero, List.setIfInBounds_toArray, List.set_cons_zero, List.set_cons_succ]
                refine wpAnyH_take (i := 11) (v := undef) rfl (by kernel_rfl) (by kernel_rfl) (by kernel_rfl) (fun _ _ _ h => h) (Or.inr ⟨by kernel_rfl, rfl⟩) (by assumption) ?_
                try simp only [Act.put, List.getElem_toArray, List.getElem_cons_succ, List.getElem_cons_zero, List.setIfInBounds_toArray, List.set_cons_zero, List.set_cons_succ]
                refine wpAnyH_take (i := 12) (v := undef) rfl (by kernel_rfl) (by kernel_rfl) (by kernel_rfl) (fun _ _ _ h => h) (Or.inr ⟨by kernel_rfl, rfl⟩) (by assumption) ?_
                try simp only [Act.put, List.getElem_toArray, List.getElem_cons_succ, List.getElem_cons_zero, List.setIfInBounds_toArray, List.set_cons_zero, List.set_cons_succ]
                refine wpAnyH_take (i := 13) (v := undef) rfl (by kernel_rfl) (by kernel_rfl) (by kernel_rfl) (fun _ _ _ h => h) (Or.inr ⟨by kernel_rfl, rfl⟩) (by assumption) ?_
                try simp only [Act.put, List.getElem_toArray, List.getElem_cons_succ, List.getElem_cons_zero, List.setIfInBounds_toArray, List.set_cons_zero, List.set_cons_succ]
                refine wpAnyH_take (i := 14) (v := undef) rfl (by kernel_rfl) (by kernel_rfl) (by kernel_rfl) (fun _ _ _ h => h) (Or.inr ⟨by kernel_rfl, rfl⟩) (by assumption) ?_
                try simp only [Act.put, List.getElem_toArray, List.getElem_cons_succ, List.getElem_cons_zero, List.setIfInBounds_toArray, List.set_cons_zero, List.set_cons_succ]
                refine wpAnyH_take (i := 15) (v := undef) rfl (by kernel_rfl) (by kernel_rfl) (by kernel_rfl) (fun _ _ _ h => h) (Or.inr ⟨by kernel_rfl, rfl⟩) (by assumption) ?_
                try simp only [Act.put, List.getElem_toArray, List.getElem_cons_succ, List.getElem_cons_zero, List.setIfInBounds_toArray, List.set_cons_zero, List.set_cons_succ]
                refine wpAnyH_take (i := 16) (v := ?_) rfl (by kernel_rfl) (by kernel_rfl) (by kernel_rfl) (fun _ _ _ h => h) (Or.inl ⟨by kernel_rfl, ?_⟩) (by assumption) ?_
                rotate_left 1
                · intro w hSw; (try dsimp only at hSw); go_simp; try with_reducible rfl
                try simp only [Act.put, List.getElem_toArray, List.getElem_cons_succ, List.getElem_cons_zero, List.setIfInBounds_toArray, List.set_cons_zero, List.set_cons_succ]
                refine wpAnyH_done (by kernel_rfl) ?_ _
                go_wp2
                go_ret
                exact .inr ⟨HL.out, rfl, ⟨A, n, d, hHeld.2.1, (HSL.out.on hHeld.1).low, HNE.out, hlg⟩, hHeld.1.mono hlow⟩
              · by_cases hday : dayR r.list ≤ n1
                · have hg1 : decide (n1 < dayR r.list) = false := decide_eq_false (by omega)
                  obtain ⟨sp, hsp⟩ : ∃ y, stampW r.stamp (wordsB ⟨n1, b, n3⟩) = y := ⟨_, rfl⟩
                  have hspb := stampW_bd r.stamp (wordsB ⟨n1, b, n3⟩)
                  rw [hsp] at hspb
                  have HSP := Lib.hid hsp
                  have HT1 := Lib.hid (show lineB sp ⟨n1, b, n3⟩ ≠ line ++ ⟨#[10]⟩ → stepS s r = none from fun q => by rw [HST.out]; exact stepF_four_text he d1 d3 (by rw [← E1.out, ← E3.out, hsp]; exact q))
                  have HT2 := Lib.hid (show lineB sp ⟨n1, b, n3⟩ = line ++ ⟨#[10]⟩ → stepS s r = some ⟨r.list ++ [⟨n1, b, n3⟩], sp, k + 1⟩ from fun q => by
                    have e9 := stepF_four_yes (r := r) he d1 d3 (by rw [← E1.out, ← E3.out]; exact hokx) (by rw [← E1.out]; exact hday) (by rw [← E1.out, ← E3.out, hsp]; exact q)
                    rw [HST.out, e9, ← E1.out, ← E3.out, hsp, hlk])
                  have hwsz := wordsB_small hokx
                  have hok1 := Lib.hid hokx
                  clear hsp
                  simp only [hn1', hn3', r1, r3] at x1 x3 ⊢
                  have HN1 := Lib.hid hn1'
                  have HN3 := Lib.hid hn3'
                  clear hn1' hn3' h4
                  go_wp2_with fail
                  obtain ⟨wq, hwq⟩ : ∃ y, w3.alloc (.cells #[.int .i64 n1, .string b, .int .i64 n3] 253) = y := ⟨_, rfl⟩
                  have bq : Below w3.heap.size w3 wq := by rw [← hwq]; exact (Below.refl _ _).alloc (Nat.le_refl _) _
                  have yx : Blk wq w3.heap.size 253 #[.int .i64 n1, .string b, .int .i64 n3] := by rw [← hwq]; exact Blk.new _ _ _
                  rw [hwq]
                  clear hwq
                  have y4 := y3.on bq
                  have HB4 := Lib.hid (bnext HB3.out bq (Nat.le_refl _))
                  have hgb : g < w3.heap.size := y3.lt
                  obtain ⟨wb, hwb⟩ : ∃ y, w3.heap.size = y := ⟨_, rfl⟩
                  rw [hwb] at yx hgb ⊢
                  have hwbw : w.heap.size ≤ wb := by have := HB3.out.size; omega
                  clear bq c1 y3 hwb
                  refine wp_region_held_drew (S := (fun W => Below w.heap.size w W ∧ Blk W g 212 #[.string s, .int .i64 (r.at_ : Int), .int .i64 r.stamp, .slice A n d] ∧ Blk W wb 253 #[.int .i64 n1, .string b, .int .i64 n3])) (by kernel_rfl) ?_ (fun hHeld => ?_)
                  · exact ⟨HB4.out.drew, y4.drew, yx.drew⟩
                  refine wpAnyH_take (i := 0) (v := ?_) rfl (by kernel_rfl) (by kernel_rfl) (by kernel_rfl) (fun _ _ _ h => h) (Or.inl ⟨by kernel_rfl, ?_⟩) (by assumption) ?_
                  rotate_left 1
                  · intro w hSw; (try dsimp only at hSw); go_simp; try with_reducible rfl
                  try simp only [Act.put, List.getElem_toArray, List.getElem_cons_succ, List.getElem_cons_zero, List.setIfInBounds_toArray, List.set_cons_zero, List.set_cons_succ]
                  refine wpAnyH_take (i := 1) (v := ?_) rfl (by kernel_rfl) (by kernel_rfl) (by kernel_rfl) (fun _ _ _ h => h) (Or.inl ⟨by kernel_rfl, ?_⟩) (by assumption) ?_
                  rotate_left 1
                  · intro w hSw; (try dsimp only at hSw); go_simp; try with_reducible rfl
                  try simp only [Act.put, List.getElem_toArray, List.getElem_cons_succ, List.getElem_cons_zero, List.setIfInBounds_toArray, List.set_cons_zero, List.set_cons_succ]
                  refine wpAnyH_take (i := 2) (v := ?_) rfl (by kernel_rfl) (by kernel_rfl) (by kernel_rfl) (fun _ _ _ h => h) (Or.inl ⟨by kernel_rfl, ?_⟩) (by assumption) ?_
                  rotate_left 1
                  · intro w hSw; (try dsimp only at hSw); go_simp; try with_reducible rfl
                  try simp only [Act.put, List.getElem_toArray, List.getElem_cons_succ, List.getElem_cons_zero, List.setIfInBounds_toArray, List.set_cons_zero, List.set_cons_succ]
                  refine wpAnyH_take (i := 3) (v := ?_) rfl (by kernel_rfl) (by kernel_rfl) (by kernel_rfl) (fun _ _ _ h => h) (Or.inl ⟨by kernel_rfl, ?_⟩) (by assumption) ?_
                  rotate_left 1
                  · intro w hSw; (try dsimp only at hSw); go_simp; try with_reducible rfl
                  try simp only [Act.put, List.getElem_toArray, List.getElem_cons_succ, List.getElem_cons_zero, List.setIfInBounds_toArray, List.set_cons_zero, List.set_cons_succ]
                  refine wpAnyH_take (i := 4) (v := ?_) rfl (by kernel_rfl) (by kernel_rfl) (by kernel_rfl) (fun _ _ _ h => h) (Or.inl ⟨by kernel_rfl, ?_⟩) (by assumption) ?_
                  rotate_left 1
                  · intro w hSw; (try dsimp only at hSw); go_simp; try with_reducible rfl
                  try simp only [Act.put, List.getElem_toArray, List.getElem_cons_succ, List.getElem_cons_zero, List.setIfInBounds_toArray, List.set_cons_zero, List.set_cons_succ]
                  refine wpAnyH_take (i := 5) (v := ?_) rfl (by kernel_rfl) (by kernel_rfl) (by kernel_rfl) (fun _ _ _ h => h) (Or.inl ⟨by kernel_rfl, ?_⟩) (by assumption) ?_
                  rotate_left 1
                  · intro w hSw; (try dsimp only at hSw); go_simp; try with_reducible rfl
                  try simp only [Act.put, List.getElem_toArray, List.getElem_cons_succ, List.getElem_cons_zero, List.setIfInBounds_toArray, List.set_cons_zero, List.set_cons_succ]
                  refine wpAnyH_take (i := 6) (v := ?_) rfl (by kernel_rfl) (by kernel_rfl) (by kernel_rfl) (fun _ _ _ h => h) (Or.inl ⟨by kernel_rfl, ?_⟩) (by assumption) ?_
                  rotate_left 1
                  · intro w hSw; (try dsimp only at hSw); go_simp; try with_reducible rfl
                  try simp only [Act.put, List.getElem_toArray, List.getElem_cons_succ, List.getElem_cons_zero, List.setIfInBounds_toArray, List.set_cons_zero, List.set_cons_succ]
                  refine wpAnyH_ready (rs := [7]) (by kernel_rfl) (by simp) ?_
                  refine AllReadyH.cons rfl (fun K hK => ?_) AllReadyH.nil
                  go_simp
                  go_at_call 257
                  (have hk := l27Ok_any ⟨n1, b, n3⟩ wb _ (by simp only; omega) (hHeld.2.2.cellAt 0 (by simp)) (hHeld.2.2.cellAt 1 (by simp)) (hHeld.2.2.cellAt 2 (by simp)))
                  rw [hokx] at hk
                  refine hk.mono ?_
                  rintro e w5 ⟨rfl, rfl⟩
                  clear hk
                  go_wp2_with fail
                  refine hK.out _ _ ?_ (fun hNew => ?_)
                  · exact hHeld
                  clear hK K hHeld
                  have hHeld := hNew
                  clear hNew
                  try simp only [Act.put, List.getElem_toArray, List.getElem_cons_succ, List.getElem_cons_zero, List.setIfInBounds_toArray, List.set_cons_zero, List.set_cons_succ]
                  refine wpAnyH_take (i := 8) (v := ?_) rfl (by kernel_rfl) (by kernel_rfl) (by kernel_rfl) (fun _ _ _ h => h) (Or.inl ⟨by kernel_rfl, ?_⟩) (by assumption) ?_
                  rotate_left 1
                  · intro w hSw; (try dsimp only at hSw); go_simp; try with_reducible rfl
                  try simp only [Act.put, List.getElem_toArray, List.getElem_cons_succ, List.getElem_cons_zero, List.setIfInBounds_toArray, List.set_cons_zero, List.set_cons_succ]
                  refine wpAnyH_take (i := 9) (v := ?_) rfl (by kernel_rfl) (by kernel_rfl) (by kernel_rfl) (fun _ _ _ h => h) (Or.inl ⟨by kernel_rfl, ?_⟩) (by assumption) ?_
                  rotate_left 1
                  · intro w hSw; (try dsimp only at hSw); go_simp; try with_reducible rfl
                  try simp only [Act.put, List.getElem_toArray, List.getElem_cons_succ, List.getElem_cons_zero, List.setIfInBounds_toArray, List.set_cons_zero, List.set_cons_succ]
                  refine wpAnyH_take (i := 10) (v := ?_) rfl (by kernel_rfl) (by kernel_rfl) (by kernel_rfl) (fun _ _ _ h => h) (Or.inl ⟨by kernel_rfl, ?_⟩) (by assumption) ?_
                  rotate_left 1
                  · intro w hSw; (try dsimp only at hSw); go_simp; try with_reducible rfl
                  try simp only [Act.put, List.getElem_toArray, List.getElem_cons_succ, List.getElem_cons_zero, List.setIfInBounds_toArray, List.set_cons_zero, List.set_cons_succ]
                  refine wpAnyH_take (i := 11) (v := ?_) rfl (by kernel_rfl) (by kernel_rfl) (by kernel_rfl) (fun _ _ _ h => h) (Or.inl ⟨by kernel_rfl, ?_⟩) (by assumption) ?_
                  rotate_left 1
                  · intro w hSw; (try dsimp only at hSw); go_simp; try with_reducible rfl
                  try simp only [Act.put, List.getElem_toArray, List.getElem_cons_succ, List.getElem_cons_zero, List.setIfInBounds_toArray, List.set_cons_zero, List.set_cons_succ]
                  refine wpAnyH_take (i := 12) (v := ?_) rfl (by kernel_rfl) (by kernel_rfl) (by kernel_rfl) (fun _ _ _ h => h) (Or.inl ⟨by kernel_rfl, ?_⟩) (by assumption) ?_
                  rotate_left 1
                  · intro w hSw; (try dsimp only at hSw); (have e0 := hSw.2.1.cellAt 0 (by simp)); (have e1 := hSw.2.1.cellAt 1 (by simp)); (have e2 := hSw.2.1.cellAt 2 (by simp)); (have e3 := hSw.2.1.cellAt 3 (by simp)); (have f0 := hSw.2.2.cellAt 0 (by simp)); (have f1 := hSw.2.2.cellAt 1 (by simp)); (have f2 := hSw.2.2.cellAt 2 (by simp)); go_simp; try with_reducible rfl
                  try simp only [Act.put, List.getElem_toArray, List.getElem_cons_succ, List.getElem_cons_zero, List.setIfInBounds_toArray, List.set_cons_zero, List.set_cons_succ]
                  refine wpAnyH_take (i := 13) (v := ?_) rfl (by kernel_rfl) (by kernel_rfl) (by kernel_rfl) (fun _ _ _ h => h) (Or.inl ⟨by kernel_rfl, ?_⟩) (by assumption) ?_
                  rotate_left 1
                  · intro w hSw; (try dsimp only at hSw); go_simp; try with_reducible rfl
                  try simp only [Act.put, List.getElem_toArray, List.getElem_cons_succ, List.getElem_cons_zero, List.setIfInBounds_toArray, List.set_cons_zero, List.set_cons_succ]
                  refine wpAnyH_ready (rs := [14]) (by kernel_rfl) (by simp) ?_
                  refine AllReadyH.cons rfl (fun K hK => ?_) AllReadyH.nil
                  go_simp
                  go_at_call 258
                  refine (l27Day2_any lo g s r _ ⟨A, n, d, hHeld.2.1, (HSL.out.on hHeld.1).low, HNE.out, hlg⟩ HOK.out (by omega)).mono ?_
                  rintro e w6 ⟨rfl, m6, rfl⟩
                  go_wp2_with fail
                  refine hK.out _ _ ?_ (fun hNew => ?_)
                  · exact ⟨below_drewN HB4.out _, y4.drewN _, yx.drewN _⟩
                  clear hK K hHeld
                  have hHeld := hNew
                  clear hNew
                  try simp only [Act.put, List.getElem_toArray, List.getElem_cons_succ, List.getElem_cons_zero, List.setIfInBounds_toArray, List.set_cons_zero, List.set_cons_succ]
                  refine wpAnyH_take (i := 15) (v := ?_) rfl (by kernel_rfl) (by kernel_rfl) (by kernel_rfl) (fun _ _ _ h => h) (Or.inl ⟨by kernel_rfl, ?_⟩) (by assumption) ?_
                  rotate_left 1
                  · intro w hSw; (try dsimp only at hSw); go_simp; try with_reducible rfl
                  try simp only [Act.put, List.getElem_toArray, List.getElem_cons_succ, List.getElem_cons_zero, List.setIfInBounds_toArray, List.set_cons_zero, List.set_cons_succ]
                  refine wpAnyH_take (i := 16) (v := ?_) rfl (by kernel_rfl) (by kernel_rfl) (by kernel_rfl) (fun _ _ _ h => h) (Or.inl ⟨by kernel_rfl, ?_⟩) (by assumption) ?_
                  rotate_left 1
                  · intro w hSw; (try dsimp only at hSw); go_simp; try with_reducible rfl
                  try simp only [Act.put, List.getElem_toArray, List.getElem_cons_succ, List.getElem_cons_zero, List.setIfInBounds_toArray, List.set_cons_zero, List.set_cons_succ]
                  refine wpAnyH_done (by kernel_rfl) ?_ _
                  have y5 := hHeld.2.1
                  have yx5 := hHeld.2.2
                  have HB5 := Lib.hid hHeld.1
                  clear hHeld y4 yx
                  go_wp2_with fail
                  refine wp_region_held_drew (S := (fun W => Below w.heap.size w W ∧ Blk W g 212 #[.string s, .int .i64 (r.at_ : Int), .int .i64 r.stamp, .slice A n d] ∧ Blk W wb 253 #[.int .i64 n1, .string b, .int .i64 n3])) (by kernel_rfl) ?_ (fun hHeld => ?_)
                  · exact ⟨HB5.out.drew, y5.drew, yx5.drew⟩
                  refine wpAnyH_take (i := 0) (v := ?_) rfl (by kernel_rfl) (by kernel_rfl) (by kernel_rfl) (fun _ _ _ h => h) (Or.inl ⟨by kernel_rfl, ?_⟩) (by assumption) ?_
                  rotate_left 1
                  · intro w hSw; (try dsimp only at hSw); go_simp; try with_reducible rfl
                  try simp only [Act.put, List.getElem_toArray, List.getElem_cons_succ, List.getElem_cons_zero, List.setIfInBounds_toArray, List.set_cons_zero, List.set_cons_succ]
                  refine wpAnyH_take (i := 1) (v := ?_) rfl (by kernel_rfl) (by kernel_rfl) (by kernel_rfl) (fun _ _ _ h => h) (Or.inl ⟨by kernel_rfl, ?_⟩) (by assumption) ?_
                  rotate_left 1
                  · intro w hSw; (try dsimp only at hSw); go_simp; try with_reducible rfl
                  try simp only [Act.put, List.getElem_toArray, List.getElem_cons_succ, List.getElem_cons_zero, List.setIfInBounds_toArray, List.set_cons_zero, List.set_cons_succ]
                  refine wpAnyH_take (i := 2) (v := ?_) rfl (by kernel_rfl) (by kernel_rfl) (by kernel_rfl) (fun _ _ _ h => h) (Or.inl ⟨by kernel_rfl, ?_⟩) (by assumption) ?_
                  rotate_left 1
                  · intro w hSw; (try dsimp only at hSw); go_simp; try with_reducible rfl
                  try simp only [Act.put, List.getElem_toArray, List.getElem_cons_succ, List.getElem_cons_zero, List.setIfInBounds_toArray, List.set_cons_zero, List.set_cons_succ]
                  refine wpAnyH_take (i := 3) (v := ?_) rfl (by kernel_rfl) (by kernel_rfl) (by kernel_rfl) (fun _ _ _ h => h) (Or.inl ⟨by kernel_rfl, ?_⟩) (by assumption) ?_
                  rotate_left 1
                  · intro w hSw; (try dsimp only at hSw); (have e0 := hSw.2.1.cellAt 0 (by simp)); (have e1 := hSw.2.1.cellAt 1 (by simp)); (have e2 := hSw.2.1.cellAt 2 (by simp)); (have e3 := hSw.2.1.cellAt 3 (by simp)); (have f0 := hSw.2.2.cellAt 0 (by simp)); (have f1 := hSw.2.2.cellAt 1 (by simp)); (have f2 := hSw.2.2.cellAt 2 (by simp)); go_simp; try with_reducible rfl
                  try simp only [Act.put, List.getElem_toArray, List.getElem_cons_succ, List.getElem_cons_zero, List.setIfInBounds_toArray, List.set_cons_zero, List.set_cons_succ]
                  refine wpAnyH_ready (rs := [4]) (by kernel_rfl) (by simp) ?_
                  refine AllReadyH.cons rfl (fun K hK => ?_) AllReadyH.nil
                  go_simp
                  go_at_call 260
                  refine (l27Words_any ⟨n1, b, n3⟩ wb _ hxg hxs (hHeld.2.2.cellAt 0 (by simp)) (hHeld.2.2.cellAt 1 (by simp)) (hHeld.2.2.cellAt 2 (by simp))).mono ?_
                  rintro e w7 ⟨rfl, b7⟩
                  go_wp2_with fail
                  refine hK.out _ _ ?_ (fun hNew => ?_)
                  · exact ⟨bnext hHeld.1 b7 (Nat.le_refl _), hHeld.2.1.on b7, hHeld.2.2.on b7⟩
                  clear hK K hHeld
                  have hHeld := hNew
                  clear hNew
                  try simp only [Act.put, List.getElem_toArray, List.getElem_cons_succ, List.getElem_cons_zero, List.setIfInBounds_toArray, List.set_cons_zero, List.set_cons_succ]
                  refine wpAnyH_ready (rs := [5]) (by kernel_rfl) (by simp) ?_
                  refine AllReadyH.cons rfl (fun K hK => ?_) AllReadyH.nil
                  go_simp
                  go_at_call 259
                  refine (l27Stamp_any r.stamp (wordsB ⟨n1, b, n3⟩) _ hs0 hs1 (by omega)).mono ?_
                  rintro e w8 ⟨rfl, rfl⟩
                  go_wp2_with fail
                  refine hK.out _ _ ?_ (fun hNew => ?_)
                  · exact hHeld
                  clear hK K hHeld
                  have hHeld := hNew
                  clear hNew
                  try simp only [Act.put, List.getElem_toArray, List.getElem_cons_succ, List.getElem_cons_zero, List.setIfInBounds_toArray, List.set_cons_zero, List.set_cons_succ]
                  refine wpAnyH_take (i := 6) (v := ?_) rfl (by kernel_rfl) (by kernel_rfl) (by kernel_rfl) (fun _ _ _ h => h) (Or.inl ⟨by kernel_rfl, ?_⟩) (by assumption) ?_
                  rotate_left 1
                  · intro w hSw; (try dsimp only at hSw); go_simp; try with_reducible rfl
                  try simp only [Act.put, List.getElem_toArray, List.getElem_cons_succ, List.getElem_cons_zero, List.setIfInBounds_toArray, List.set_cons_zero, List.set_cons_succ]
                  refine wpAnyH_done (by kernel_rfl) ?_ _
                  have y8 := hHeld.2.1
                  have yx8 := hHeld.2.2
                  have HB8 := Lib.hid hHeld.1
                  clear hHeld y5 yx5
                  rw [HSP.out]
                  go_wp2_with fail
                  have hk2 : (k : Int) + 1 ≤ (s.size : Int) := by omega
                  have hk3 : (r.at_ : Int) ≤ (k : Int) + 1 := by omega
                  have hkw : IntKind.i64.wrap ((k : Int) + 1) = (k : Int) + 1 := by
                    unfold IntKind.wrap; simp [IntKind.bits, IntKind.signed]; omega
                  have hkt : ((k : Int) + 1).toNat = k + 1 := by omega
                  by_cases htx : lineB sp ⟨n1, b, n3⟩ = line ++ ⟨#[10]⟩
                  · have HL := Lib.hid (HT2.out htx)
                    have hq3 : ((lineB sp ⟨n1, b, n3⟩).toList == (s.extract r.at_ (k + 1)).toList) = true := by rw [HEX.out, htx]; exact beq_self_eq_true _
                    clear htx
                    refine wp_region_held_drew (S := (fun W => Below w.heap.size w W ∧ Blk W g 212 #[.string s, .int .i64 (r.at_ : Int), .int .i64 r.stamp, .slice A n d] ∧ Blk W wb 253 #[.int .i64 n1, .string b, .int .i64 n3])) (by kernel_rfl) ?_ (fun hHeld => ?_)
                    · exact ⟨HB8.out.drew, y8.drew, yx8.drew⟩
                    refine wpAnyH_take (i := 0) (v := ?_) rfl (by kernel_rfl) (by kernel_rfl) (by kernel_rfl) (fun _ _ _ h => h) (Or.inl ⟨by kernel_rfl, ?_⟩) (by assumption) ?_
                    rotate_left 1
                    · intro w hSw; (try dsimp only at hSw); go_simp; try with_reducible rfl
                    try simp only [Act.put, List.getElem_toArray, List.getElem_cons_succ, List.getElem_cons_zero, List.setIfInBounds_toArray, List.set_cons_zero, List.set_cons_succ]
                    refine wpAnyH_take (i := 2) (v := ?_) rfl (by kernel_rfl) (by kernel_rfl) (by kernel_rfl) (fun _ _ _ h => h) (Or.inl ⟨by kernel_rfl, ?_⟩) (by assumption) ?_
                    rotate_left 1
                    · intro w hSw; (try dsimp only at hSw); go_simp; try with_reducible rfl
                    try simp only [Act.put, List.getElem_toArray, List.getElem_cons_succ, List.getElem_cons_zero, List.setIfInBounds_toArray, List.set_cons_zero, List.set_cons_succ]
                    refine wpAnyH_take (i := 3) (v := ?_) rfl (by kernel_rfl) (by kernel_rfl) (by kernel_rfl) (fun _ _ _ h => h) (Or.inl ⟨by kernel_rfl, ?_⟩) (by assumption) ?_
                    rotate_left 1
                    · intro w hSw; (try dsimp only at hSw); go_simp; try with_reducible rfl
                    try simp only [Act.put, List.getElem_toArray, List.getElem_cons_succ, List.getElem_cons_zero, List.setIfInBounds_toArray, List.set_cons_zero, List.set_cons_succ]
                    refine wpAnyH_take (i := 4) (v := ?_) rfl (by kernel_rfl) (by kernel_rfl) (by kernel_rfl) (fun _ _ _ h => h) (Or.inl ⟨by kernel_rfl, ?_⟩) (by assumption) ?_
                    rotate_left 1
                    · intro w hSw; (try dsimp only at hSw); go_simp; try with_reducible rfl
                    try simp only [Act.put, List.getElem_toArray, List.getElem_cons_succ, List.getElem_cons_zero, List.setIfInBounds_toArray, List.set_cons_zero, List.set_cons_succ]
                    refine wpAnyH_take (i := 5) (v := ?_) rfl (by kernel_rfl) (by kernel_rfl) (by kernel_rfl) (fun _ _ _ h => h) (Or.inl ⟨by kernel_rfl, ?_⟩) (by assumption) ?_
                    rotate_left 1
                    · intro w hSw; (try dsimp only at hSw); (have e0 := hSw.2.1.cellAt 0 (by simp)); (have e1 := hSw.2.1.cellAt 1 (by simp)); (have e2 := hSw.2.1.cellAt 2 (by simp)); (have e3 := hSw.2.1.cellAt 3 (by simp)); (have f0 := hSw.2.2.cellAt 0 (by simp)); (have f1 := hSw.2.2.cellAt 1 (by simp)); (have f2 := hSw.2.2.cellAt 2 (by simp)); go_simp; try with_reducible rfl
                    try simp only [Act.put, List.getElem_toArray, List.getElem_cons_succ, List.getElem_cons_zero, List.setIfInBounds_toArray, List.set_cons_zero, List.set_cons_succ]
                    refine wpAnyH_take (i := 6) (v := ?_) rfl (by kernel_rfl) (by kernel_rfl) (by kernel_rfl) (fun _ _ _ h => h) (Or.inl ⟨by kernel_rfl, ?_⟩) (by assumption) ?_
                    rotate_left 1
                    · intro w hSw; (try dsimp only at hSw); go_simp; try with_reducible rfl
                    try simp only [Act.put, List.getElem_toArray, List.getElem_cons_succ, List.getElem_cons_zero, List.setIfInBounds_toArray, List.set_cons_zero, List.set_cons_succ]
                    refine wpAnyH_take (i := 7) (v := ?_) rfl (by kernel_rfl) (by kernel_rfl) (by kernel_rfl) (fun _ _ _ h => h) (Or.inl ⟨by kernel_rfl, ?_⟩) (by assumption) ?_
                    rotate_left 1
                    · intro w hSw; (try dsimp only at hSw); go_simp; try with_reducible rfl
                    try simp only [Act.put, List.getElem_toArray, List.getElem_cons_succ, List.getElem_cons_zero, List.setIfInBounds_toArray, List.set_cons_zero, List.set_cons_succ]
                    refine wpAnyH_take (i := 8) (v := ?_) rfl (by kernel_rfl) (by kernel_rfl) (by kernel_rfl) (fun _ _ _ h => h) (Or.inl ⟨by kernel_rfl, ?_⟩) (by assumption) ?_
                    rotate_left 1
                    · intro w hSw; (try dsimp only at hSw); go_simp; try with_reducible rfl
                    try simp only [Act.put, List.getElem_toArray, List.getElem_cons_succ, List.getElem_cons_zero, List.setIfInBounds_toArray, List.set_cons_zero, List.set_cons_succ]
                    refine wpAnyH_take (i := 9) (v := ?_) rfl (by kernel_rfl) (by kernel_rfl) (by kernel_rfl) (fun _ _ _ h => h) (Or.inl ⟨by kernel_rfl, ?_⟩) (by assumption) ?_
                    rotate_left 1
                    · intro w hSw; (try dsimp only at hSw); (have e0 := hSw.2.1.cellAt 0 (by simp)); (have e1 := hSw.2.1.cellAt 1 (by simp)); (have e2 := hSw.2.1.cellAt 2 (by simp)); (have e3 := hSw.2.1.cellAt 3 (by simp)); (have f0 := hSw.2.2.cellAt 0 (by simp)); (have f1 := hSw.2.2.cellAt 1 (by simp)); (have f2 := hSw.2.2.cellAt 2 (by simp)); go_simp; try with_reducible rfl
                    try simp only [Act.put, List.getElem_toArray, List.getElem_cons_succ, List.getElem_cons_zero, List.setIfInBounds_toArray, List.set_cons_zero, List.set_cons_succ]
                    refine wpAnyH_take (i := 10) (v := ?_) rfl (by kernel_rfl) (by kernel_rfl) (by kernel_rfl) (fun _ _ _ h => h) (Or.inl ⟨by kernel_rfl, ?_⟩) (by assumption) ?_
                    rotate_left 1
                    · intro w hSw; (try dsimp only at hSw); go_simp; try with_reducible rfl
                    try simp only [Act.put, List.getElem_toArray, List.getElem_cons_succ, List.getElem_cons_zero, List.setIfInBounds_toArray, List.set_cons_zero, List.set_cons_succ]
                    refine wpAnyH_take (i := 11) (v := ?_) rfl (by kernel_rfl) (by kernel_rfl) (by kernel_rfl) (fun _ _ _ h => h) (Or.inl ⟨by kernel_rfl, ?_⟩) (by assumption) ?_
                    rotate_left 1
                    · intro w hSw; (try dsimp only at hSw); go_simp; try with_reducible rfl
                    try simp only [Act.put, List.getElem_toArray, List.getElem_cons_succ, List.getElem_cons_zero, List.setIfInBounds_toArray, List.set_cons_zero, List.set_cons_succ]
                    refine wpAnyH_take (i := 12) (v := ?_) rfl (by kernel_rfl) (by kernel_rfl) (by kernel_rfl) (fun _ _ _ h => h) (Or.inl ⟨by kernel_rfl, ?_⟩) (by assumption) ?_
                    rotate_left 1
                    · intro w hSw; (try dsimp only at hSw); go_simp; try with_reducible rfl
                    try simp only [Act.put, List.getElem_toArray, List.getElem_cons_succ, List.getElem_cons_zero, List.setIfInBounds_toArray, List.set_cons_zero, List.set_cons_succ]
                    refine wpAnyH_ready (rs := [1]) (by kernel_rfl) (by simp) ?_
                    refine AllReadyH.cons rfl (fun K hK => ?_) AllReadyH.nil
                    go_simp
                    go_at_call 261
                    refine (l27Line_any sp ⟨n1, b, n3⟩ wb _ hok1.out hspb.1 hspb.2 (hHeld.2.2.cellAt 0 (by simp)) (hHeld.2.2.cellAt 1 (by simp)) (hHeld.2.2.cellAt 2 (by simp))).mono ?_
                    rintro e w9 ⟨rfl, b9⟩
                    go_wp2_with fail
                    refine hK.out _ _ ?_ (fun hNew => ?_)
                    · exact ⟨bnext hHeld.1 b9 (Nat.le_refl _), hHeld.2.1.on b9, hHeld.2.2.on b9⟩
                    clear hK K hHeld
                    have hHeld := hNew
                    clear hNew
                    try simp only [Act.put, List.getElem_toArray, List.getElem_cons_succ, List.getElem_cons_zero, List.setIfInBounds_toArray, List.set_cons_zero, List.set_cons_succ]
                    refine wpAnyH_take (i := 13) (v := ?_) rfl (by kernel_rfl) (by kernel_rfl) (by kernel_rfl) (fun _ _ _ h => h) (Or.inl ⟨by kernel_rfl, ?_⟩) (by assumption) ?_
                    rotate_left 1
                    · intro w hSw; (try dsimp only at hSw); go_simp; try with_reducible rfl
                    try simp only [Act.put, List.getElem_toArray, List.getElem_cons_succ, List.getElem_cons_zero, List.setIfInBounds_toArray, List.set_cons_zero, List.set_cons_succ]
                    refine wpAnyH_done (by kernel_rfl) ?_ _
                    have y9 := hHeld.2.1
                    have yx9 := hHeld.2.2
                    have HB9 := Lib.hid hHeld.1
                    clear hHeld y8 yx8
                    clear HT1 HT2
                    have hg9 : g < w9.heap.size := y9.lt
                    have hsl9 := (HSL.out.on HB9.out).low
                    have hz9 : lo ≤ w9.heap.size := by have := HB9.out.size; omega
                    have o0 : w9.cell? ⟨g, 0, none⟩ = some (.string s) := y9.cellAt 0 (by simp)
                    have o1 : w9.cell? ⟨g, 1, none⟩ = some (.int .i64 (r.at_ : Int)) := y9.cellAt 1 (by simp)
                    have o2 : w9.cell? ⟨g, 2, none⟩ = some (.int .i64 r.stamp) := y9.cellAt 2 (by simp)
                    have o3 : w9.cell? ⟨g, 3, none⟩ = some (.slice A n d) := y9.cellAt 3 (by simp)
                    have e0 : w9.cell? ⟨wb, 0, none⟩ = some (.int .i64 n1) := yx9.cellAt 0 (by simp)
                    have e1 : w9.cell? ⟨wb, 1, none⟩ = some (.string b) := yx9.cellAt 1 (by simp)
                    have e2 : w9.cell? ⟨wb, 2, none⟩ = some (.int .i64 n3) := yx9.cellAt 2 (by simp)
                    go_wp2_with fail
                    refine wp_region_held_drew (S := (fun _ => True)) (by kernel_rfl) ?_ (fun hHeld => ?_)
                    · trivial
                    refine wpAnyH_take (i := 0) (v := ?_) rfl (by kernel_rfl) (by kernel_rfl) (by kernel_rfl) (fun _ _ _ h => h) (Or.inl ⟨by kernel_rfl, ?_⟩) (by assumption) ?_
                    rotate_left 1
                    · intro w hSw; (try dsimp only at hSw); go_simp; try with_reducible rfl
                    try simp only [Act.put, List.getElem_toArray, List.getElem_cons_succ, List.getElem_cons_zero, List.setIfInBounds_toArray, List.set_cons_zero, List.set_cons_succ]
                    refine wpAnyH_take (i := 1) (v := ?_) rfl (by kernel_rfl) (by kernel_rfl) (by kernel_rfl) (fun _ _ _ h => h) (Or.inl ⟨by kernel_rfl, ?_⟩) (by assumption) ?_
                    rotate_left 1
                    · intro w hSw; (try dsimp only at hSw); go_simp; try with_reducible rfl
                    try simp only [Act.put, List.getElem_toArray, List.getElem_cons_succ, List.getElem_cons_zero, List.setIfInBounds_toArray, List.set_cons_zero, List.set_cons_succ]
                    refine wpAnyH_take (i := 2) (v := ?_) rfl (by kernel_rfl) (by kernel_rfl) (by kernel_rfl) (fun _ _ _ h => h) (Or.inl ⟨by kernel_rfl, ?_⟩) (by assumption) ?_
                    rotate_left 1
                    · intro w hSw; (try dsimp only at hSw); go_simp; try with_reducible rfl
                    try simp only [Act.put, List.getElem_toArray, List.getElem_cons_succ, List.getElem_cons_zero, List.setIfInBounds_toArray, List.set_cons_zero, List.set_cons_succ]
                    refine wpAnyH_take (i := 3) (v := ?_) rfl (by kernel_rfl) (by kernel_rfl) (by kernel_rfl) (fun _ _ _ h => h) (Or.inl ⟨by kernel_rfl, ?_⟩) (by assumption) ?_
                    rotate_left 1
                    · intro w hSw; (try dsimp only at hSw); go_simp; try with_reducible rfl
                    try simp only [Act.put, List.getElem_toArray, List.getElem_cons_succ, List.getElem_cons_zero, List.setIfInBounds_toArray, List.set_cons_zero, List.set_cons_succ]
                    refine wpAnyH_ready (rs := [4, 5]) (by kernel_rfl) (by simp) ?_
                    refine AllReadyH.cons rfl (fun K hK => ?_) ?_
                    · skip
                      go_simp
                      refine hK.out _ _ ?_ (fun hNew => ?_)
                      · trivial
                      clear hK K hHeld
                      have hHeld := hNew
                      clear hNew
                      try simp only [Act.put, List.getElem_toArray, List.getElem_cons_succ, List.getElem_cons_zero, List.setIfInBounds_toArray, List.set_cons_zero, List.set_cons_succ]
                      refine wpAnyH_ready (rs := [5]) (by kernel_rfl) (by simp) ?_
                      refine AllReadyH.cons rfl (fun K hK => ?_) AllReadyH.nil
                      go_simp
                      refine hK.out _ _ ?_ (fun hNew => ?_)
                      · trivial
                      clear hK K hHeld
                      have hHeld := hNew
                      clear hNew
                      try simp only [Act.put, List.getElem_toArray, List.getElem_cons_succ, List.getElem_cons_zero, List.setIfInBounds_toArray, List.set_cons_zero, List.set_cons_succ]
                      refine wpAnyH_ready (rs := [6]) (by kernel_rfl) (by simp) ?_
                      refine AllReadyH.cons rfl (fun K hK => ?_) AllReadyH.nil
                      go_simp
                      refine hK.out _ _ ?_ (fun hNew => ?_)
                      · trivial
                      clear hK K hHeld
                      have hHeld := hNew
                      clear hNew
                      try simp only [Act.put, List.getElem_toArray, List.getElem_cons_succ, List.getElem_cons_zero, List.setIfInBounds_toArray, List.set_cons_zero, List.set_cons_succ]
                      refine wpAnyH_ready (rs := [7]) (by kernel_rfl) (by simp) ?_
                      refine AllReadyH.cons rfl (fun K hK => ?_) AllReadyH.nil
                      refine step_slOneF rfl _ _ 196 rfl 253 _ 3 32 Tryz.underlying196 info_en rfl (by decide) (by decide) hsl9.drew hz9 rfl (cellsEn ⟨n1, b, n3⟩) w9.heap.size rfl rfl rfl (ens_one _) (by omega) ?_
                      intro A2 d2 w10 hs10 b10 f10 k10
                      refine hK.out _ _ ?_ (fun hNew => ?_)
                      · trivial
                      clear hK K hHeld
                      have hHeld := hNew
                      clear hNew
                      try simp only [Act.put, List.getElem_toArray, List.getElem_cons_succ, List.getElem_cons_zero, List.setIfInBounds_toArray, List.set_cons_zero, List.set_cons_succ]
                      refine wpAnyH_take (i := 8) (v := ?_) rfl (by kernel_rfl) (by kernel_rfl) (by kernel_rfl) (fun _ _ _ h => h) (Or.inl ⟨by kernel_rfl, ?_⟩) (by assumption) ?_
                      rotate_left 1
                      · intro w hSw; (try dsimp only at hSw); go_simp; try with_reducible rfl
                      try simp only [Act.put, List.getElem_toArray, List.getElem_cons_succ, List.getElem_cons_zero, List.setIfInBounds_toArray, List.set_cons_zero, List.set_cons_succ]
                      refine wpAnyH_take (i := 9) (v := ?_) rfl (by kernel_rfl) (by kernel_rfl) (by kernel_rfl) (fun _ _ _ h => h) (Or.inl ⟨by kernel_rfl, ?_⟩) (by assumption) ?_
                      rotate_left 1
                      · intro w hSw; (try dsimp only at hSw); go_simp; try with_reducible rfl
                      try simp only [Act.put, List.getElem_toArray, List.getElem_cons_succ, List.getElem_cons_zero, List.setIfInBounds_toArray, List.set_cons_zero, List.set_cons_succ]
                      refine wpAnyH_ready (rs := [10]) (by kernel_rfl) (by simp) ?_
                      refine AllReadyH.cons rfl (fun K hK => ?_) AllReadyH.nil
                      have y10 : Blk w10 g 212 #[.string s, .int .i64 (r.at_ : Int), .int .i64 r.stamp, .slice A n d] := (f10 g hg9 HNE.out).trans y9
                      have p0 : w10.cell? ⟨g, 0, none⟩ = some (.string s) := y10.cellAt 0 (by simp)
                      have p1 : w10.cell? ⟨g, 1, none⟩ = some (.int .i64 (r.at_ : Int)) := y10.cellAt 1 (by simp)
                      have p2 : w10.cell? ⟨g, 2, none⟩ = some (.int .i64 r.stamp) := y10.cellAt 2 (by simp)
                      have p3 : w10.cell? ⟨g, 3, none⟩ = some (.slice A n d) := y10.cellAt 3 (by simp)
                      have pf0 := y10.frozen 0
                      have pf1 := y10.frozen 1
                      have pf2 := y10.frozen 2
                      have pf3 := y10.frozen 3
                      go_simp
                      refine hK.out _ _ ?_ (fun hNew => ?_)
                      · trivial
                      clear hK K hHeld
                      have hHeld := hNew
                      clear hNew
                      try simp only [Act.put, List.getElem_toArray, List.getElem_cons_succ, List.getElem_cons_zero, List.setIfInBounds_toArray, List.set_cons_zero, List.set_cons_succ]
                      refine wpAnyH_done (by kernel_rfl) ?_ _
                      have hne10 : ∀ ad, A2 = some ad → ad.block ≠ g := k10 g hg9 HNE.out
                      go_wp2
                      go_ret
                      refine .inl ⟨_, HL.out, rfl, ⟨A2, n + 1, d2, ?_, ?_, hne10, hlg⟩, ((((HB9.out.mono hlow).drew.trans b10).setCell hlg _).setCell hlg _).setCell hlg _⟩
                      · have q9 := ((y10.set_ 3 (.slice A2 (n + 1) d2)).set_ 2 (.int .i64 sp)).set_ 1 (.int .i64 ((k + 1 : Nat) : Int))
                        simpa using q9
                      · rw [ens_snoc]
                        exact (((hs10.setNe hne10 _).setNe hne10 _).setNe hne10 _).low
                    refine AllReadyH.cons rfl (fun K hK => ?_) ?_
                    · skip
                      go_simp
                      refine hK.out _ _ ?_ (fun hNew => ?_)
                      · trivial
                      clear hK K hHeld
                      have hHeld := hNew
                      clear hNew
                      try simp only [Act.put, List.getElem_toArray, List.getElem_cons_succ, List.getElem_cons_zero, List.setIfInBounds_toArray, List.set_cons_zero, List.set_cons_succ]
                      refine wpAnyH_ready (rs := [4, 6]) (by kernel_rfl) (by simp) ?_
                      refine AllReadyH.cons rfl (fun K hK => ?_) ?_
                      · skip
                        go_simp
                        refine hK.out _ _ ?_ (fun hNew => ?_)
                        · trivial
                        clear hK K hHeld
                        have hHeld := hNew
                        clear hNew
                        try simp only [Act.put, List.getElem_toArray, List.getElem_cons_succ, List.getElem_cons_zero, List.setIfInBounds_toArray, List.set_cons_zero, List.set_cons_succ]
                        refine wpAnyH_ready (rs := [6]) (by kernel_rfl) (by simp) ?_
                        refine AllReadyH.cons rfl (fun K hK => ?_) AllReadyH.nil
                        go_simp
                        refine hK.out _ _ ?_ (fun hNew => ?_)
                        · trivial
                        clear hK K hHeld
                        have hHeld := hNew
                        clear hNew
                        try simp only [Act.put, List.getElem_toArray, List.getElem_cons_succ, List.getElem_cons_zero, List.setIfInBounds_toArray, List.set_cons_zero, List.set_cons_succ]
                        refine wpAnyH_ready (rs := [7]) (by kernel_rfl) (by simp) ?_
                        refine AllReadyH.cons rfl (fun K hK => ?_) AllReadyH.nil
                        refine step_slOneF rfl _ _ 196 rfl 253 _ 3 32 Tryz.underlying196 info_en rfl (by decide) (by decide) hsl9.drew hz9 rfl (cellsEn ⟨n1, b, n3⟩) w9.heap.size rfl rfl rfl (ens_one _) (by omega) ?_
                        intro A2 d2 w10 hs10 b10 f10 k10
                        refine hK.out _ _ ?_ (fun hNew => ?_)
                        · trivial
                        clear hK K hHeld
                        have hHeld := hNew
                        clear hNew
                        try simp only [Act.put, List.getElem_toArray, List.getElem_cons_succ, List.getElem_cons_zero, List.setIfInBounds_toArray, List.set_cons_zero, List.set_cons_succ]
                        refine wpAnyH_take (i := 8) (v := ?_) rfl (by kernel_rfl) (by kernel_rfl) (by kernel_rfl) (fun _ _ _ h => h) (Or.inl ⟨by kernel_rfl, ?_⟩) (by assumption) ?_
                        rotate_left 1
                        · intro w hSw; (try dsimp only at hSw); go_simp; try with_reducible rfl
                        try simp only [Act.put, List.getElem_toArray, List.getElem_cons_succ, List.getElem_cons_zero, List.setIfInBounds_toArray, List.set_cons_zero, List.set_cons_succ]
                        refine wpAnyH_take (i := 9) (v := ?_) rfl (by kernel_rfl) (by kernel_rfl) (by kernel_rfl) (fun _ _ _ h => h) (Or.inl ⟨by kernel_rfl, ?_⟩) (by assumption) ?_
                        rotate_left 1
                        · intro w hSw; (try dsimp only at hSw); go_simp; try with_reducible rfl
                        try simp only [Act.put, List.getElem_toArray, List.getElem_cons_succ, List.getElem_cons_zero, List.setIfInBounds_toArray, List.set_cons_zero, List.set_cons_succ]
                        refine wpAnyH_ready (rs := [10]) (by kernel_rfl) (by simp) ?_
                        refine AllReadyH.cons rfl (fun K hK => ?_) AllReadyH.nil
                        have y10 : Blk w10 g 212 #[.string s, .int .i64 (r.at_ : Int), .int .i64 r.stamp, .slice A n d] := (f10 g hg9 HNE.out).trans y9
                        have p0 : w10.cell? ⟨g, 0, none⟩ = some (.string s) := y10.cellAt 0 (by simp)
                        have p1 : w10.cell? ⟨g, 1, none⟩ = some (.int .i64 (r.at_ : Int)) := y10.cellAt 1 (by simp)
                        have p2 : w10.cell? ⟨g, 2, none⟩ = some (.int .i64 r.stamp) := y10.cellAt 2 (by simp)
                        have p3 : w10.cell? ⟨g, 3, none⟩ = some (.slice A n d) := y10.cellAt 3 (by simp)
                        have pf0 := y10.frozen 0
                        have pf1 := y10.frozen 1
                        have pf2 := y10.frozen 2
                        have pf3 := y10.frozen 3
                        go_simp
                        refine hK.out _ _ ?_ (fun hNew => ?_)
                        · trivial
                        clear hK K hHeld
                        have hHeld := hNew
                        clear hNew
                        try simp only [Act.put, List.getElem_toArray, List.getElem_cons_succ, List.getElem_cons_zero, List.setIfInBounds_toArray, List.set_cons_zero, List.set_cons_succ]
                        refine wpAnyH_done (by kernel_rfl) ?_ _
                        have hne10 : ∀ ad, A2 = some ad → ad.block ≠ g := k10 g hg9 HNE.out
                        go_wp2
                        go_ret
                        refine .inl ⟨_, HL.out, rfl, ⟨A2, n + 1, d2, ?_, ?_, hne10, hlg⟩, ((((HB9.out.mono hlow).drew.trans b10).setCell hlg _).setCell hlg _).setCell hlg _⟩
                        · have q9 := ((y10.set_ 3 (.slice A2 (n + 1) d2)).set_ 2 (.int .i64 sp)).set_ 1 (.int .i64 ((k + 1 : Nat) : Int))
                          simpa using q9
                        · rw [ens_snoc]
                          exact (((hs10.setNe hne10 _).setNe hne10 _).setNe hne10 _).low
                      refine AllReadyH.cons rfl (fun K hK => ?_) ?_
                      · skip
                        go_simp
                        refine hK.out _ _ ?_ (fun hNew => ?_)
                        · trivial
                        clear hK K hHeld
                        have hHeld := hNew
                        clear hNew
                        try simp only [Act.put, List.getElem_toArray, List.getElem_cons_succ, List.getElem_cons_zero, List.setIfInBounds_toArray, List.set_cons_zero, List.set_cons_succ]
                        refine wpAnyH_ready (rs := [4]) (by kernel_rfl) (by simp) ?_
                        refine AllReadyH.cons rfl (fun K hK => ?_) AllReadyH.nil
                        go_simp
                        refine hK.out _ _ ?_ (fun hNew => ?_)
                        · trivial
                        clear hK K hHeld
                        have hHeld := hNew
                        clear hNew
                        try simp only [Act.put, List.getElem_toArray, List.getElem_cons_succ, List.getElem_cons_zero, List.setIfInBounds_toArray, List.set_cons_zero, List.set_cons_succ]
                        refine wpAnyH_ready (rs := [7]) (by kernel_rfl) (by simp) ?_
                        refine AllReadyH.cons rfl (fun K hK => ?_) AllReadyH.nil
                        refine step_slOneF rfl _ _ 196 rfl 253 _ 3 32 Tryz.underlying196 info_en rfl (by decide) (by decide) hsl9.drew hz9 rfl (cellsEn ⟨n1, b, n3⟩) w9.heap.size rfl rfl rfl (ens_one _) (by omega) ?_
                        intro A2 d2 w10 hs10 b10 f10 k10
                        refine hK.out _ _ ?_ (fun hNew => ?_)
                        · trivial
                        clear hK K hHeld
                        have hHeld := hNew
                        clear hNew
                        try simp only [Act.put, List.getElem_toArray, List.getElem_cons_succ, List.getElem_cons_zero, List.setIfInBounds_toArray, List.set_cons_zero, List.set_cons_succ]
                        refine wpAnyH_take (i := 8) (v := ?_) rfl (by kernel_rfl) (by kernel_rfl) (by kernel_rfl) (fun _ _ _ h => h) (Or.inl ⟨by kernel_rfl, ?_⟩) (by assumption) ?_
                        rotate_left 1
                        · intro w hSw; (try dsimp only at hSw); go_simp; try with_reducible rfl
                        try simp only [Act.put, List.getElem_toArray, List.getElem_cons_succ, List.getElem_cons_zero, List.setIfInBounds_toArray, List.set_cons_zero, List.set_cons_succ]
                        refine wpAnyH_take (i := 9) (v := ?_) rfl (by kernel_rfl) (by kernel_rfl) (by kernel_rfl) (fun _ _ _ h => h) (Or.inl ⟨by kernel_rfl, ?_⟩) (by assumption) ?_
                        rotate_left 1
                        · intro w hSw; (try dsimp only at hSw); go_simp; try with_reducible rfl
                        try simp only [Act.put, List.getElem_toArray, List.getElem_cons_succ, List.getElem_cons_zero, List.setIfInBounds_toArray, List.set_cons_zero, List.set_cons_succ]
                        refine wpAnyH_ready (rs := [10]) (by kernel_rfl) (by simp) ?_
                        refine AllReadyH.cons rfl (fun K hK => ?_) AllReadyH.nil
                        have y10 : Blk w10 g 212 #[.string s, .int .i64 (r.at_ : Int), .int .i64 r.stamp, .slice A n d] := (f10 g hg9 HNE.out).trans y9
                        have p0 : w10.cell? ⟨g, 0, none⟩ = some (.string s) := y10.cellAt 0 (by simp)
                        have p1 : w10.cell? ⟨g, 1, none⟩ = some (.int .i64 (r.at_ : Int)) := y10.cellAt 1 (by simp)
                        have p2 : w10.cell? ⟨g, 2, none⟩ = some (.int .i64 r.stamp) := y10.cellAt 2 (by simp)
                        have p3 : w10.cell? ⟨g, 3, none⟩ = some (.slice A n d) := y10.cellAt 3 (by simp)
                        have pf0 := y10.frozen 0
                        have pf1 := y10.frozen 1
                        have pf2 := y10.frozen 2
                        have pf3 := y10.frozen 3
                        go_simp
                        refine hK.out _ _ ?_ (fun hNew => ?_)
                        · trivial
                        clear hK K hHeld
                        have hHeld := hNew
                        clear hNew
                        try simp only [Act.put, List.getElem_toArray, List.getElem_cons_succ, List.getElem_cons_zero, List.setIfInBounds_toArray, List.set_cons_zero, List.set_cons_succ]
                        refine wpAnyH_done (by kernel_rfl) ?_ _
                        have hne10 : ∀ ad, A2 = some ad → ad.block ≠ g := k10 g hg9 HNE.out
                        go_wp2
                        go_ret
                        refine .inl ⟨_, HL.out, rfl, ⟨A2, n + 1, d2, ?_, ?_, hne10, hlg⟩, ((((HB9.out.mono hlow).drew.trans b10).setCell hlg _).setCell hlg _).setCell hlg _⟩
                        · have q9 := ((y10.set_ 3 (.slice A2 (n + 1) d2)).set_ 2 (.int .i64 sp)).set_ 1 (.int .i64 ((k + 1 : Nat) : Int))
                          simpa using q9
                        · rw [ens_snoc]
                          exact (((hs10.setNe hne10 _).setNe hne10 _).setNe hne10 _).low
                      exact AllReadyH.nil
                    exact AllReadyH.nil
                  · have HL := Lib.hid (HT1.out htx)
                    have hq3 : ((lineB sp ⟨n1, b, n3⟩).toList == (s.extract r.at_ (k + 1)).toList) = false := by rw [HEX.out, beq_eq_false_iff_ne, ne_eq, Go.ByteArray.toList_eq, Go.ByteArray.toList_eq]; exact fun q => htx (bytes_ext q)
                    clear htx
                    refine wp_region_held_drew (S := (fun W => Below w.heap.size w W ∧ Blk W g 212 #[.string s, .int .i64 (r.at_ : Int), .int .i64 r.stamp, .slice A n d] ∧ Blk W wb 253 #[.int .i64 n1, .string b, .int .i64 n3])) (by kernel_rfl) ?_ (fun hHeld => ?_)
                    · exact ⟨HB8.out.drew, y8.drew, yx8.drew⟩
                    refine wpAnyH_take (i := 0) (v := ?_) rfl (by kernel_rfl) (by kernel_rfl) (by kernel_rfl) (fun _ _ _ h => h) (Or.inl ⟨by kernel_rfl, ?_⟩) (by assumption) ?_
                    rotate_left 1
                    · intro w hSw; (try dsimp only at hSw); go_simp; try with_reducible rfl
                    try simp only [Act.put, List.getElem_toArray, List.getElem_cons_succ, List.getElem_cons_zero, List.setIfInBounds_toArray, List.set_cons_zero, List.set_cons_succ]
                    refine wpAnyH_take (i := 2) (v := ?_) rfl (by kernel_rfl) (by kernel_rfl) (by kernel_rfl) (fun _ _ _ h => h) (Or.inl ⟨by kernel_rfl, ?_⟩) (by assumption) ?_
                    rotate_left 1
                    · intro w hSw; (try dsimp only at hSw); go_simp; try with_reducible rfl
                    try simp only [Act.put, List.getElem_toArray, List.getElem_cons_succ, List.getElem_cons_zero, List.setIfInBounds_toArray, List.set_cons_zero, List.set_cons_succ]
                    refine wpAnyH_take (i := 3) (v := ?_) rfl (by kernel_rfl) (by kernel_rfl) (by kernel_rfl) (fun _ _ _ h => h) (Or.inl ⟨by kernel_rfl, ?_⟩) (by assumption) ?_
                    rotate_left 1
                    · intro w hSw; (try dsimp only at hSw); go_simp; try with_reducible rfl
                    try simp only [Act.put, List.getElem_toArray, List.getElem_cons_succ, List.getElem_cons_zero, List.setIfInBounds_toArray, List.set_cons_zero, List.set_cons_succ]
                    refine wpAnyH_take (i := 4) (v := ?_) rfl (by kernel_rfl) (by kernel_rfl) (by kernel_rfl) (fun _ _ _ h => h) (Or.inl ⟨by kernel_rfl, ?_⟩) (by assumption) ?_
                    rotate_left 1
                    · intro w hSw; (try dsimp only at hSw); go_simp; try with_reducible rfl
                    try simp only [Act.put, List.getElem_toArray, List.getElem_cons_succ, List.getElem_cons_zero, List.setIfInBounds_toArray, List.set_cons_zero, List.set_cons_succ]
                    refine wpAnyH_take (i := 5) (v := ?_) rfl (by kernel_rfl) (by kernel_rfl) (by kernel_rfl) (fun _ _ _ h => h) (Or.inl ⟨by kernel_rfl, ?_⟩) (by assumption) ?_
                    rotate_left 1
                    · intro w hSw; (try dsimp only at hSw); (have e0 := hSw.2.1.cellAt 0 (by simp)); (have e1 := hSw.2.1.cellAt 1 (by simp)); (have e2 := hSw.2.1.cellAt 2 (by simp)); (have e3 := hSw.2.1.cellAt 3 (by simp)); (have f0 := hSw.2.2.cellAt 0 (by simp)); (have f1 := hSw.2.2.cellAt 1 (by simp)); (have f2 := hSw.2.2.cellAt 2 (by simp)); go_simp; try with_reducible rfl
                    try simp only [Act.put, List.getElem_toArray, List.getElem_cons_succ, List.getElem_cons_zero, List.setIfInBounds_toArray, List.set_cons_zero, List.set_cons_succ]
                    refine wpAnyH_take (i := 6) (v := ?_) rfl (by kernel_rfl) (by kernel_rfl) (by kernel_rfl) (fun _ _ _ h => h) (Or.inl ⟨by kernel_rfl, ?_⟩) (by assumption) ?_
                    rotate_left 1
                    · intro w hSw; (try dsimp only at hSw); go_simp; try with_reducible rfl
                    try simp only [Act.put, List.getElem_toArray, List.getElem_cons_succ, List.getElem_cons_zero, List.setIfInBounds_toArray, List.set_cons_zero, List.set_cons_succ]
                    refine wpAnyH_take (i := 7) (v := ?_) rfl (by kernel_rfl) (by kernel_rfl) (by kernel_rfl) (fun _ _ _ h => h) (Or.inl ⟨by kernel_rfl, ?_⟩) (by assumption) ?_
                    rotate_left 1
                    · intro w hSw; (try dsimp only at hSw); go_simp; try with_reducible rfl
                    try simp only [Act.put, List.getElem_toArray, List.getElem_cons_succ, List.getElem_cons_zero, List.setIfInBounds_toArray, List.set_cons_zero, List.set_cons_succ]
                    refine wpAnyH_take (i := 8) (v := ?_) rfl (by kernel_rfl) (by kernel_rfl) (by kernel_rfl) (fun _ _ _ h => h) (Or.inl ⟨by kernel_rfl, ?_⟩) (by assumption) ?_
                    rotate_left 1
                    · intro w hSw; (try dsimp only at hSw); go_simp; try with_reducible rfl
                    try simp only [Act.put, List.getElem_toArray, List.getElem_cons_succ, List.getElem_cons_zero, List.setIfInBounds_toArray, List.set_cons_zero, List.set_cons_succ]
                    refine wpAnyH_take (i := 9) (v := ?_) rfl (by kernel_rfl) (by kernel_rfl) (by kernel_rfl) (fun _ _ _ h => h) (Or.inl ⟨by kernel_rfl, ?_⟩) (by assumption) ?_
                    rotate_left 1
                    · intro w hSw; (try dsimp only at hSw); (have e0 := hSw.2.1.cellAt 0 (by simp)); (have e1 := hSw.2.1.cellAt 1 (by simp)); (have e2 := hSw.2.1.cellAt 2 (by simp)); (have e3 := hSw.2.1.cellAt 3 (by simp)); (have f0 := hSw.2.2.cellAt 0 (by simp)); (have f1 := hSw.2.2.cellAt 1 (by simp)); (have f2 := hSw.2.2.cellAt 2 (by simp)); go_simp; try with_reducible rfl
                    try simp only [Act.put, List.getElem_toArray, List.getElem_cons_succ, List.getElem_cons_zero, List.setIfInBounds_toArray, List.set_cons_zero, List.set_cons_succ]
                    refine wpAnyH_take (i := 10) (v := ?_) rfl (by kernel_rfl) (by kernel_rfl) (by kernel_rfl) (fun _ _ _ h => h) (Or.inl ⟨by kernel_rfl, ?_⟩) (by assumption) ?_
                    rotate_left 1
                    · intro w hSw; (try dsimp only at hSw); go_simp; try with_reducible rfl
                    try simp only [Act.put, List.getElem_toArray, List.getElem_cons_succ, List.getElem_cons_zero, List.setIfInBounds_toArray, List.set_cons_zero, List.set_cons_succ]
                    refine wpAnyH_take (i := 11) (v := ?_) rfl (by kernel_rfl) (by kernel_rfl) (by kernel_rfl) (fun _ _ _ h => h) (Or.inl ⟨by kernel_rfl, ?_⟩) (by assumption) ?_
                    rotate_left 1
                    · intro w hSw; (try dsimp only at hSw); go_simp; try with_reducible rfl
                    try simp only [Act.put, List.getElem_toArray, List.getElem_cons_succ, List.getElem_cons_zero, List.setIfInBounds_toArray, List.set_cons_zero, List.set_cons_succ]
                    refine wpAnyH_take (i := 12) (v := ?_) rfl (by kernel_rfl) (by kernel_rfl) (by kernel_rfl) (fun _ _ _ h => h) (Or.inl ⟨by kernel_rfl, ?_⟩) (by assumption) ?_
                    rotate_left 1
                    · intro w hSw; (try dsimp only at hSw); go_simp; try with_reducible rfl
                    try simp only [Act.put, List.getElem_toArray, List.getElem_cons_succ, List.getElem_cons_zero, List.setIfInBounds_toArray, List.set_cons_zero, List.set_cons_succ]
                    refine wpAnyH_ready (rs := [1]) (by kernel_rfl) (by simp) ?_
                    refine AllReadyH.cons rfl (fun K hK => ?_) AllReadyH.nil
                    go_simp
                    go_at_call 261
                    refine (l27Line_any sp ⟨n1, b, n3⟩ wb _ hok1.out hspb.1 hspb.2 (hHeld.2.2.cellAt 0 (by simp)) (hHeld.2.2.cellAt 1 (by simp)) (hHeld.2.2.cellAt 2 (by simp))).mono ?_
                    rintro e w9 ⟨rfl, b9⟩
                    go_wp2_with fail
                    refine hK.out _ _ ?_ (fun hNew => ?_)
                    · exact ⟨bnext hHeld.1 b9 (Nat.le_refl _), hHeld.2.1.on b9, hHeld.2.2.on b9⟩
                    clear hK K hHeld
                    have hHeld := hNew
                    clear hNew
                    try simp only [Act.put, List.getElem_toArray, List.getElem_cons_succ, List.getElem_cons_zero, List.setIfInBounds_toArray, List.set_cons_zero, List.set_cons_succ]
                    refine wpAnyH_take (i := 13) (v := ?_) rfl (by kernel_rfl) (by kernel_rfl) (by kernel_rfl) (fun _ _ _ h => h) (Or.inl ⟨by kernel_rfl, ?_⟩) (by assumption) ?_
                    rotate_left 1
                    · intro w hSw; (try dsimp only at hSw); go_simp; try with_reducible rfl
                    try simp only [Act.put, List.getElem_toArray, List.getElem_cons_succ, List.getElem_cons_zero, List.setIfInBounds_toArray, List.set_cons_zero, List.set_cons_succ]
                    refine wpAnyH_done (by kernel_rfl) ?_ _
                    go_wp2
                    go_ret
                    exact .inr ⟨HL.out, rfl, ⟨A, n, d, hHeld.2.1, (HSL.out.on hHeld.1).low, HNE.out, hlg⟩, hHeld.1.mono hlow⟩
                · have hg1 : decide (n1 < dayR r.list) = true := decide_eq_true (by omega)
                  have HL := Lib.hid (show stepS s r = none by rw [HST.out]; exact stepF_four_day he (by rw [← E1.out]; exact hday))
                  simp only [hn1', hn3', r1, r3] at x1 x3 ⊢
                  have HN1 := Lib.hid hn1'
                  have HN3 := Lib.hid hn3'
                  clear hn1' hn3' h4
                  go_wp2_with fail
                  obtain ⟨wq, hwq⟩ : ∃ y, w3.alloc (.cells #[.int .i64 n1, .string b, .int .i64 n3] 253) = y := ⟨_, rfl⟩
                  have bq : Below w3.heap.size w3 wq := by rw [← hwq]; exact (Below.refl _ _).alloc (Nat.le_refl _) _
                  have yx : Blk wq w3.heap.size 253 #[.int .i64 n1, .string b, .int .i64 n3] := by rw [← hwq]; exact Blk.new _ _ _
                  rw [hwq]
                  clear hwq
                  have y4 := y3.on bq
                  have HB4 := Lib.hid (bnext HB3.out bq (Nat.le_refl _))
                  have hgb : g < w3.heap.size := y3.lt
                  obtain ⟨wb, hwb⟩ : ∃ y, w3.heap.size = y := ⟨_, rfl⟩
                  rw [hwb] at yx hgb ⊢
                  have hwbw : w.heap.size ≤ wb := by have := HB3.out.size; omega
                  clear bq c1 y3 hwb
                  refine wp_region_held_drew (S := (fun W => Below w.heap.size w W ∧ Blk W g 212 #[.string s, .int .i64 (r.at_ : Int), .int .i64 r.stamp, .slice A n d] ∧ Blk W wb 253 #[.int .i64 n1, .string b, .int .i64 n3])) (by kernel_rfl) ?_ (fun hHeld => ?_)
                  · exact ⟨HB4.out.drew, y4.drew, yx.drew⟩
                  refine wpAnyH_take (i := 0) (v := ?_) rfl (by kernel_rfl) (by kernel_rfl) (by kernel_rfl) (fun _ _ _ h => h) (Or.inl ⟨by kernel_rfl, ?_⟩) (by assumption) ?_
                  rotate_left 1
                  · intro w hSw; (try dsimp only at hSw); go_simp; try with_reducible rfl
                  try simp only [Act.put, List.getElem_toArray, List.getElem_cons_succ, List.getElem_cons_zero, List.setIfInBounds_toArray, List.set_cons_zero, List.set_cons_succ]
                  refine wpAnyH_take (i := 1) (v := ?_) rfl (by kernel_rfl) (by kernel_rfl) (by kernel_rfl) (fun _ _ _ h => h) (Or.inl ⟨by kernel_rfl, ?_⟩) (by assumption) ?_
                  rotate_left 1
                  · intro w hSw; (try dsimp only at hSw); go_simp; try with_reducible rfl
                  try simp only [Act.put, List.getElem_toArray, List.getElem_cons_succ, List.getElem_cons_zero, List.setIfInBounds_toArray, List.set_cons_zero, List.set_cons_succ]
                  refine wpAnyH_take (i := 2) (v := ?_) rfl (by kernel_rfl) (by kernel_rfl) (by kernel_rfl) (fun _ _ _ h => h) (Or.inl ⟨by kernel_rfl, ?_⟩) (by assumption) ?_
                  rotate_left 1
                  · intro w hSw; (try dsimp only at hSw); go_simp; try with_reducible rfl
                  try simp only [Act.put, List.getElem_toArray, List.getElem_cons_succ, List.getElem_cons_zero, List.setIfInBounds_toArray, List.set_cons_zero, List.set_cons_succ]
                  refine wpAnyH_take (i := 3) (v := ?_) rfl (by kernel_rfl) (by kernel_rfl) (by kernel_rfl) (fun _ _ _ h => h) (Or.inl ⟨by kernel_rfl, ?_⟩) (by assumption) ?_
                  rotate_left 1
                  · intro w hSw; (try dsimp only at hSw); go_simp; try with_reducible rfl
                  try simp only [Act.put, List.getElem_toArray, List.getElem_cons_succ, List.getElem_cons_zero, List.setIfInBounds_toArray, List.set_cons_zero, List.set_cons_succ]
                  refine wpAnyH_take (i := 4) (v := ?_) rfl (by kernel_rfl) (by kernel_rfl) (by kernel_rfl) (fun _ _ _ h => h) (Or.inl ⟨by kernel_rfl, ?_⟩) (by assumption) ?_
                  rotate_left 1
                  · intro w hSw; (try dsimp only at hSw); go_simp; try with_reducible rfl
                  try simp only [Act.put, List.getElem_toArray, List.getElem_cons_succ, List.getElem_cons_zero, List.setIfInBounds_toArray, List.set_cons_zero, List.set_cons_succ]
                  refine wpAnyH_take (i := 5) (v := ?_) rfl (by kernel_rfl) (by kernel_rfl) (by kernel_rfl) (fun _ _ _ h => h) (Or.inl ⟨by kernel_rfl, ?_⟩) (by assumption) ?_
                  rotate_left 1
                  · intro w hSw; (try dsimp only at hSw); go_simp; try with_reducible rfl
                  try simp only [Act.put, List.getElem_toArray, List.getElem_cons_succ, List.getElem_cons_zero, List.setIfInBounds_toArray, List.set_cons_zero, List.set_cons_succ]
                  refine wpAnyH_take (i := 6) (v := ?_) rfl (by kernel_rfl) (by kernel_rfl) (by kernel_rfl) (fun _ _ _ h => h) (Or.inl ⟨by kernel_rfl, ?_⟩) (by assumption) ?_
                  rotate_left 1
                  · intro w hSw; (try dsimp only at hSw); go_simp; try with_reducible rfl
                  try simp only [Act.put, List.getElem_toArray, List.getElem_cons_succ, List.getElem_cons_zero, List.setIfInBounds_toArray, List.set_cons_zero, List.set_cons_succ]
                  refine wpAnyH_ready (rs := [7]) (by kernel_rfl) (by simp) ?_
                  refine AllReadyH.cons rfl (fun K hK => ?_) AllReadyH.nil
                  go_simp
                  go_at_call 257
                  (have hk := l27Ok_any ⟨n1, b, n3⟩ wb _ (by simp only; omega) (hHeld.2.2.cellAt 0 (by simp)) (hHeld.2.2.cellAt 1 (by simp)) (hHeld.2.2.cellAt 2 (by simp)))
                  rw [hokx] at hk
                  refine hk.mono ?_
                  rintro e w5 ⟨rfl, rfl⟩
                  clear hk
                  go_wp2_with fail
                  refine hK.out _ _ ?_ (fun hNew => ?_)
                  · exact hHeld
                  clear hK K hHeld
                  have hHeld := hNew
                  clear hNew
                  try simp only [Act.put, List.getElem_toArray, List.getElem_cons_succ, List.getElem_cons_zero, List.setIfInBounds_toArray, List.set_cons_zero, List.set_cons_succ]
                  refine wpAnyH_take (i := 8) (v := ?_) rfl (by kernel_rfl) (by kernel_rfl) (by kernel_rfl) (fun _ _ _ h => h) (Or.inl ⟨by kernel_rfl, ?_⟩) (by assumption) ?_
                  rotate_left 1
                  · intro w hSw; (try dsimp only at hSw); go_simp; try with_reducible rfl
                  try simp only [Act.put, List.getElem_toArray, List.getElem_cons_succ, List.getElem_cons_zero, List.setIfInBounds_toArray, List.set_cons_zero, List.set_cons_succ]
                  refine wpAnyH_take (i := 9) (v := ?_) rfl (by kernel_rfl) (by kernel_rfl) (by kernel_rfl) (fun _ _ _ h => h) (Or.inl ⟨by kernel_rfl, ?_⟩) (by assumption) ?_
                  rotate_left 1
                  · intro w hSw; (try dsimp only at hSw); go_simp; try with_reducible rfl
                  try simp only [Act.put, List.getElem_toArray, List.getElem_cons_succ, List.getElem_cons_zero, List.setIfInBounds_toArray, List.set_cons_zero, List.set_cons_succ]
                  refine wpAnyH_take (i := 10) (v := ?_) rfl (by kernel_rfl) (by kernel_rfl) (by kernel_rfl) (fun _ _ _ h => h) (Or.inl ⟨by kernel_rfl, ?_⟩) (by assumption) ?_
                  rotate_left 1
                  · intro w hSw; (try dsimp only at hSw); go_simp; try with_reducible rfl
                  try simp only [Act.put, List.getElem_toArray, List.getElem_cons_succ, List.getElem_cons_zero, List.setIfInBounds_toArray, List.set_cons_zero, List.set_cons_succ]
                  refine wpAnyH_take (i := 11) (v := ?_) rfl (by kernel_rfl) (by kernel_rfl) (by kernel_rfl) (fun _ _ _ h => h) (Or.inl ⟨by kernel_rfl, ?_⟩) (by assumption) ?_
                  rotate_left 1
                  · intro w hSw; (try dsimp only at hSw); go_simp; try with_reducible rfl
                  try simp only [Act.put, List.getElem_toArray, List.getElem_cons_succ, List.getElem_cons_zero, List.setIfInBounds_toArray, List.set_cons_zero, List.set_cons_succ]
                  refine wpAnyH_take (i := 12) (v := ?_) rfl (by kernel_rfl) (by kernel_rfl) (by kernel_rfl) (fun _ _ _ h => h) (Or.inl ⟨by kernel_rfl, ?_⟩) (by assumption) ?_
                  rotate_left 1
                  · intro w hSw; (try dsimp only at hSw); (have e0 := hSw.2.1.cellAt 0 (by simp)); (have e1 := hSw.2.1.cellAt 1 (by simp)); (have e2 := hSw.2.1.cellAt 2 (by simp)); (have e3 := hSw.2.1.cellAt 3 (by simp)); (have f0 := hSw.2.2.cellAt 0 (by simp)); (have f1 := hSw.2.2.cellAt 1 (by simp)); (have f2 := hSw.2.2.cellAt 2 (by simp)); go_simp; try with_reducible rfl
                  try simp only [Act.put, List.getElem_toArray, List.getElem_cons_succ, List.getElem_cons_zero, List.setIfInBounds_toArray, List.set_cons_zero, List.set_cons_succ]
                  refine wpAnyH_take (i := 13) (v := ?_) rfl (by kernel_rfl) (by kernel_rfl) (by kernel_rfl) (fun _ _ _ h => h) (Or.inl ⟨by kernel_rfl, ?_⟩) (by assumption) ?_
                  rotate_left 1
                  · intro w hSw; (try dsimp only at hSw); go_simp; try with_reducible rfl
                  try simp only [Act.put, List.getElem_toArray, List.getElem_cons_succ, List.getElem_cons_zero, List.setIfInBounds_toArray, List.set_cons_zero, List.set_cons_succ]
                  refine wpAnyH_ready (rs := [14]) (by kernel_rfl) (by simp) ?_
                  refine AllReadyH.cons rfl (fun K hK => ?_) AllReadyH.nil
                  go_simp
                  go_at_call 258
                  refine (l27Day2_any lo g s r _ ⟨A, n, d, hHeld.2.1, (HSL.out.on hHeld.1).low, HNE.out, hlg⟩ HOK.out (by omega)).mono ?_
                  rintro e w6 ⟨rfl, m6, rfl⟩
                  go_wp2_with fail
                  refine hK.out _ _ ?_ (fun hNew => ?_)
                  · exact ⟨below_drewN HB4.out _, y4.drewN _, yx.drewN _⟩
                  clear hK K hHeld
                  have hHeld := hNew
                  clear hNew
                  try simp only [Act.put, List.getElem_toArray, List.getElem_cons_succ, List.getElem_cons_zero, List.setIfInBounds_toArray, List.set_cons_zero, List.set_cons_succ]
                  refine wpAnyH_take (i := 15) (v := ?_) rfl (by kernel_rfl) (by kernel_rfl) (by kernel_rfl) (fun _ _ _ h => h) (Or.inl ⟨by kernel_rfl, ?_⟩) (by assumption) ?_
                  rotate_left 1
                  · intro w hSw; (try dsimp only at hSw); go_simp; try with_reducible rfl
                  try simp only [Act.put, List.getElem_toArray, List.getElem_cons_succ, List.getElem_cons_zero, List.setIfInBounds_toArray, List.set_cons_zero, List.set_cons_succ]
                  refine wpAnyH_take (i := 16) (v := ?_) rfl (by kernel_rfl) (by kernel_rfl) (by kernel_rfl) (fun _ _ _ h => h) (Or.inl ⟨by kernel_rfl, ?_⟩) (by assumption) ?_
                  rotate_left 1
                  · intro w hSw; (try dsimp only at hSw); go_simp; try with_reducible rfl
                  try simp only [Act.put, List.getElem_toArray, List.getElem_cons_succ, List.getElem_cons_zero, List.setIfInBounds_toArray, List.set_cons_zero, List.set_cons_succ]
                  refine wpAnyH_done (by kernel_rfl) ?_ _
                  go_wp2
                  go_ret
                  exact .inr ⟨HL.out, rfl, ⟨A, n, d, hHeld.2.1, (HSL.out.on hHeld.1).low, HNE.out, hlg⟩, hHeld.1.mono hlow⟩
        · have HL := Lib.hid (show stepS s r = none by rw [HST.out, stepF_other h4])
          have hm1 := s1.len
          simp only [strs, List.length_map, Nat.mul_one] at hm1
          have hm4 : ((m1 : Int) != 4) = true := by rw [bne_iff_ne]; omega
          clear s1 h4
          go_wp2
          go_ret
          exact .inr ⟨HL.out, rfl, ⟨A, n, d, y1, (HSL.out.on HB1.out).low, HNE.out, hlg⟩, HB1.out.mono hlow⟩
      · have hq : ((s[k].toNat : Int) != 10) = true := by
          rw [bne_iff_ne]
          intro e
          exact hc (by rw [← UInt8.toNat_inj]; exact Int.ofNat_inj.1 e)
        have hq2 : ((s[k].toNat : Int) == 10) = false := by
          rw [beq_eq_false_iff_ne]
          intro e
          exact hc (by rw [← UInt8.toNat_inj]; exact Int.ofNat_inj.1 e)
        have HN2 := Lib.hid (no_step HN.out hjk hlt hc)
        clear hc
        go_wp2
        go_round
        case rel => exact ⟨k + 1, by omega, by omega, by go_num, HN2.out⟩
        case measure => simp [RowKit.intOf]; omega
    · obtain rfl : k = s.size := by omega
      have HST := Lib.hid (stepS_miss HN.out)
      have hkk : ¬ ((s.size : Int) < (s.size : Int)) := by omega
      go_wp2
      go_ret
      exact .inr ⟨HST.out, rfl, ⟨A, n, d, yb, HSL.out, HNE.out, hlg⟩, Below.refl _ _⟩
end Go.Proofs.YtjmlcobbjpmjpaaGreatDoor
namespace Go.Proofs.YtjmlcobbjpmjpaaGreatDoor
open Go.RowKit Go.Lib

theorem LRec.atOf {lo g : Nat} {s : ByteArray} {w : World} {r : LogR} (h : LRec lo g s w r) : atOf w ⟨g, 1, none⟩ = r.at_ := by
  obtain ⟨A, n, d, h1, h2, h3, h4⟩ := h
  have q : w.cell? ⟨g, 1, none⟩ = some (.int .i64 (r.at_ : Int)) := h1.cellAt 1 (by simp)
  exact (atOf_eq q).trans (Int.toNat_natCast _)
theorem LRec.drew {lo g : Nat} {s : ByteArray} {w : World} {r : LogR} (h : LRec lo g s w r) : LRec lo g s w.drew r := h

set_option maxHeartbeats 4000000 in
set_option maxRecDepth 100000 in
theorem l27Read_any (s : ByteArray) (w : World) (hs : s.size ≤ 1048576) :
    Calls Tryz.prog 192 #[.string s] w fun e w' => e = .returned (.pointer (some ⟨w.heap.size + 1, 0, none⟩)) ∧ LRec w.heap.size (w.heap.size + 1) s w' (logR s) ∧ Below w.heap.size w w' := by
  have hr0 : LRec w.heap.size (w.heap.size + 1) s ((w.alloc (.cells #[] 253)).alloc (.cells #[.string s, .int .i64 0, .int .i64 0, .slice (some ⟨w.heap.size, 0, none⟩) 0 0] 212)) ⟨[], 0, 0⟩ := by
    refine ⟨some ⟨w.heap.size, 0, none⟩, 0, 0, ?_, ?_, ?_, Nat.le_succ _⟩
    · have := Blk.new (w.alloc (.cells #[] 253)) 212 #[.string s, .int .i64 0, .int .i64 0, .slice (some ⟨w.heap.size, 0, none⟩) 0 0]
      simpa using this
    · exact (((Sl.made w 253 3).on ((Below.refl _ _).alloc (Nat.le_refl _) _)).low).wide (Nat.le_refl _) (Nat.le_refl _)
    · intro ad had
      injection had with had
      subst had
      simp
  have hb0 : Below w.heap.size w ((w.alloc (.cells #[] 253)).alloc (.cells #[.string s, .int .i64 0, .int .i64 0, .slice (some ⟨w.heap.size, 0, none⟩) 0 0] 212)) := ((Below.refl _ _).alloc (Nat.le_refl _) _).alloc (by simp) _
  have HR := Lib.hid hr0
  have HB := Lib.hid hb0
  clear hr0 hb0
  go_enter Tryz.func192, Tryz.ntmps192
  go_wp2
  go_loopw [] (fun wr => ∃ r : LogR, r.ok ∧ r.at_ ≤ s.size ∧ logR s = logGo (splitS 10 (s.extract r.at_ s.size)) r ∧ LRec w.heap.size (w.heap.size + 1) s wr r ∧ Below w.heap.size w wr) (fun wr => s.size - atOf wr ⟨w.heap.size + 1, 1, none⟩)
  case atStart => exact ⟨⟨[], 0, 0⟩, LogR.ok_start, Nat.zero_le _, by rw [whole_]; rfl, HR.out, HB.out⟩
  case round =>
    obtain ⟨r, hok, hat, hgo, hrec, hbel⟩ := hrel
    have HA1 := Lib.hid hrec.atOf
    have HGO := Lib.hid hgo
    have HB2 := Lib.hid hbel
    have HK := Lib.hid (fun r' (h : stepS s r = some r') => stepS_some hok hat h)
    clear hgo hbel
    go_wp2_with fail
    refine (l27line_any _ _ s r _ hrec hok hat hs HB2.out.size).mono ?_
    rintro e w1 (⟨r', h1, rfl, h3, b1⟩ | ⟨h1, rfl, h3, b1⟩)
    · have H1 := Lib.hid h1
      have H3 := Lib.hid h3
      have HF := Lib.hid (HB2.out.trans b1)
      clear h1 h3 b1 hrec hok hat
      go_wp2
      go_roundw
      case rel =>
        obtain ⟨k1, k2, k3⟩ := HK.out r' H1.out
        exact ⟨r', k1, k2, by rw [HGO.out, stepS_go (by omega), H1.out], H3.out, HF.out⟩
      case measure =>
        obtain ⟨k1, k2, k3⟩ := HK.out r' H1.out
        rw [HA1.out, H3.out.atOf]
        omega
    · have HO := Lib.hid (show logR s = r by rw [HGO.out, stepS_go hat, h1])
      have H3 := Lib.hid h3
      have HF := Lib.hid (HB2.out.trans b1)
      clear h1 h3 b1 hrec hok hat
      go_wp2
      go_ret
      exact ⟨rfl, by rw [HO.out]; exact H3.out, HF.out⟩

def codeF (s : ByteArray) : Int := if 4000 < s.size then 5 else if (logR s).at_ = s.size then 0 else 8
theorem codeF_full {s : ByteArray} (h : 4000 < s.size) : codeF s = 5 := by simp [codeF, h]
theorem codeF_ok {s : ByteArray} (h : ¬ 4000 < s.size) (h2 : (logR s).at_ = s.size) : codeF s = 0 := by simp only [codeF, h, h2, if_true, if_false]
theorem codeF_bad {s : ByteArray} (h : ¬ 4000 < s.size) (h2 : (logR s).at_ ≠ s.size) : codeF s = 8 := by simp only [codeF, h, h2, if_false]
theorem codeF_bd (s : ByteArray) : 0 ≤ codeF s ∧ codeF s ≤ 8 := by
  unfold codeF
  split
  · omega
  · split <;> omega

set_option maxHeartbeats 4000000 in
set_option maxRecDepth 100000 in
theorem l27Code_any (s : ByteArray) (w : World) (hs : s.size ≤ 1048576) :
    Calls Tryz.prog 161 #[.string s] w fun e w' => ∃ g, e = .returned (.tuple #[.pointer (some ⟨g, 0, none⟩), .int .i64 (codeF s)]) ∧ (codeF s = 0 → LRec w.heap.size g s w' (logR s)) ∧ Below w.heap.size w w' := by
  by_cases h4 : 4000 < s.size
  · have h4i : (4000 : Int) < (s.size : Int) := by omega
    have HO := Lib.hid (codeF_full h4)
    go_enter Tryz.func161, Tryz.ntmps161
    go_wp2
    go_ret2
    rw [HO.out]
    exact ⟨_, rfl, (fun h => by cases h), (Below.refl _ _).alloc (Nat.le_refl _) _⟩
  · have h4i : ¬ ((4000 : Int) < (s.size : Int)) := by omega
    have HAT := logR_at s
    have HO1 := Lib.hid (fun h2 => codeF_ok h4 h2)
    have HO2 := Lib.hid (fun h2 => codeF_bad h4 h2)
    go_enter Tryz.func161, Tryz.ntmps161
    go_wp2_with fail
    refine (l27Read_any s _ hs).mono ?_
    rintro e w1 ⟨rfl, hr, b1⟩
    obtain ⟨A, n, d, y1, hsl, hne, hlg⟩ := hr
    have q1 : w1.cell? ⟨w.heap.size + 1, 1, none⟩ = some (.int .i64 ((logR s).at_ : Int)) := y1.cellAt 1 (by simp)
    have HR := Lib.hid (show LRec w.heap.size (w.heap.size + 1) s w1 (logR s) from ⟨A, n, d, y1, hsl, hne, hlg⟩)
    have HB := Lib.hid b1
    clear y1 hsl hne hlg b1
    obtain ⟨v, hv⟩ : ∃ v, (logR s).at_ = v := ⟨_, rfl⟩
    rw [hv] at q1 HAT
    by_cases h8 : v = s.size
    · have hq : ((v : Int) != (s.size : Int)) = false := by rw [h8]; exact bne_self_eq_false _
      have hq2 : ((v : Int) == (s.size : Int)) = true := by rw [h8]; exact beq_self_eq_true _
      have HO := Lib.hid (HO1.out (hv.trans h8))
      clear h8 hv
      go_wp2
      go_ret2
      rw [HO.out]
      exact ⟨_, rfl, (fun _ => HR.out), HB.out⟩
    · have hq : ((v : Int) != (s.size : Int)) = true := by rw [bne_iff_ne]; omega
      have hq2 : ((v : Int) == (s.size : Int)) = false := by rw [beq_eq_false_iff_ne]; omega
      have HO := Lib.hid (HO2.out (by rw [hv]; exact h8))
      clear h8 hv
      go_wp2
      go_ret2
      rw [HO.out]
      exact ⟨_, rfl, (fun h => by cases h), HB.out⟩

def codeR (s : ByteArray) : LogR := if codeF s = 0 then logR s else ⟨[], 0, 0⟩
theorem codeR_ok {s : ByteArray} (h : codeF s = 0) : codeR s = logR s := by simp only [codeR, h, if_true]
theorem codeR_bad {s : ByteArray} (h : codeF s ≠ 0) : codeR s = ⟨[], 0, 0⟩ := by simp only [codeR, h, if_false]
theorem codeR_isOk (s : ByteArray) : (codeR s).ok := by
  unfold codeR
  split
  · exact logR_ok s
  · exact LogR.ok_start

set_option maxHeartbeats 4000000 in
set_option maxRecDepth 100000 in
theorem logCode_any (s : ByteArray) (m : Int) (w : World) (hs : s.size ≤ 1048576) (hm : w.cell? ⟨0, 0, none⟩ = some (.int .i64 m)) (ht : TabP w) (hv : SynP w) :
    Calls Tryz.prog 173 #[.string s] w fun e w' => ∃ (A : Option Addr) (n d : Nat), e = .returned (.tuple #[.agg #[.slice A n d, .int .i64 (codeR s).stamp, .int .i64 ((codeR s).at_ : Int)], .int .i64 (codeF s)]) ∧ Sl w' w.heap.size w'.heap.size 253 3 A n d (ens (codeR s).list) ∧ Below w.heap.size w w' := by
  have hw0 : (w.alloc (.cells #[.slice none 0 0, .int .i64 0, .int .i64 0] 198)).cell? ⟨0, 0, none⟩ = some (.int .i64 m) := cell_on ((Below.refl _ _).alloc (Nat.le_refl _) _) hm
  have hb0 : Below w.heap.size w (w.alloc (.cells #[.slice none 0 0, .int .i64 0, .int .i64 0] 198)) := (Below.refl _ _).alloc (Nat.le_refl _) _
  have y0 := Blk.new w 198 #[.slice none 0 0, .int .i64 0, .int .i64 0]
  by_cases h4 : 4000 < s.size
  · have h4i : (4000 : Int) < (s.size : Int) := by omega
    have HO := Lib.hid (codeF_full h4)
    have HR := Lib.hid (codeR_bad (s := s) (by rw [HO.out]; decide))
    have hc0 := y0.cellAt 0 (by simp)
    have hc1 := y0.cellAt 1 (by simp)
    have hc2 := y0.cellAt 2 (by simp)
    have hf0 := y0.frozen 0
    have hf1 := y0.frozen 1
    have hf2 := y0.frozen 2
    clear y0 ht hv hm
    go_enter Tryz.func173, Tryz.ntmps173
    go_wp2
    exact bodyPost_ret (v := .tuple #[.agg #[.slice none 0 0, .int .i64 0, .int .i64 0], .int .i64 5]) (by simp [results, Tryz.results173, go_sem, hc0, hc1, hc2]) rfl ⟨none, 0, 0, by rw [HO.out, HR.out]; rfl, by rw [HR.out]; exact Sl.nil _ _ _ _ _, hb0⟩
  · have h4i : ¬ ((4000 : Int) < (s.size : Int)) := by omega
    have HAT := logR_at s
    have HO1 := Lib.hid (fun h2 => codeF_ok h4 h2)
    have HO2 := Lib.hid (fun h2 => codeF_bad h4 h2)
    have HT := Lib.hid (tabUp ht hb0)
    have HV := Lib.hid (synUp hv hb0)
    clear ht hv hm
    go_enter Tryz.func173, Tryz.ntmps173
    go_wp2_with fail
    refine (readLog_any s m _ hs hw0 HT.out HV.out).mono ?_
    rintro e w1 ⟨A, n, d, rfl, hsl, b1⟩
    have y1 := y0.on b1
    have HB1 := Lib.hid (bnext hb0 b1 (Nat.le_refl _))
    have hz1 := b1.size
    clear b1 y0 hw0 hb0
    obtain ⟨v, hv⟩ : ∃ v, (logR s).at_ = v := ⟨_, rfl⟩
    obtain ⟨p, hp⟩ : ∃ p, (logR s).stamp = p := ⟨_, rfl⟩
    rw [hv] at HAT
    rw [hv, hp]
    have HP := Lib.hid hp
    have HW := Lib.hid hv
    clear hp hv
    have yb' : Blk (w1.alloc (.cells #[.slice A n d, .int .i64 p, .int .i64 (v : Int)] 198)) w1.heap.size 198 #[.slice A n d, .int .i64 p, .int .i64 (v : Int)] := Blk.new _ _ _
    have yr' := y1.alloc (.cells #[.slice A n d, .int .i64 p, .int .i64 (v : Int)] 198)
    have hsl' := Lib.hid (hsl.on ((Below.refl w1.heap.size w1).alloc (Nat.le_refl _) (.cells #[.slice A n d, .int .i64 p, .int .i64 (v : Int)] 198)))
    have HB2 := Lib.hid (HB1.out.alloc HB1.out.size (.cells #[.slice A n d, .int .i64 p, .int .i64 (v : Int)] 198))
    have e0 := yb'.cellAt 0 (by simp)
    have e1 := yb'.cellAt 1 (by simp)
    have e2 := yb'.cellAt 2 (by simp)
    have hc0 := yr'.cellAt 0 (by simp)
    have hc1 := yr'.cellAt 1 (by simp)
    have hc2 := yr'.cellAt 2 (by simp)
    have hf0 := yr'.frozen 0
    have hf1 := yr'.frozen 1
    have hf2 := yr'.frozen 2
    clear y1 hsl yb' yr'
    by_cases h8 : v = s.size
    · have hlt : ¬ ((v : Int) < (s.size : Int)) := by omega
      have HO := Lib.hid (HO1.out (HW.out.trans h8))
      have HR := Lib.hid (codeR_ok HO.out)
      clear h8
      go_wp2
      exact bodyPost_ret (v := .tuple #[.agg #[.slice A n d, .int .i64 p, .int .i64 (v : Int)], .int .i64 0]) (by simp [results, Tryz.results173, go_sem, hc0, hc1, hc2]) rfl ⟨A, n, d, by rw [HO.out, HR.out, HW.out, HP.out], by rw [HR.out]; exact ((((hsl'.out.wide (lo' := w.heap.size + 1) (hi' := (w1.alloc (.cells #[.slice A n d, .int .i64 p, .int .i64 (v : Int)] 198)).heap.size) (by simp) (by simp)).setLow (by simp) _).setLow (by simp) _).setLow (by simp) _).low.wide (by omega) (Nat.le_refl _), ((HB2.out.setCell (Nat.le_refl _) _).setCell (Nat.le_refl _) _).setCell (Nat.le_refl _) _⟩
    · have hlt : (v : Int) < (s.size : Int) := by omega
      have HO := Lib.hid (HO2.out (by rw [HW.out]; exact h8))
      have HR := Lib.hid (codeR_bad (s := s) (by rw [HO.out]; decide))
      clear h8
      go_wp2
      exact bodyPost_ret (v := .tuple #[.agg #[.slice none 0 0, .int .i64 0, .int .i64 0], .int .i64 8]) (by simp [results, Tryz.results173, go_sem, hc0, hc1, hc2]) rfl ⟨none, 0, 0, by rw [HO.out, HR.out]; rfl, by rw [HR.out]; exact Sl.nil _ _ _ _ _, ((HB2.out.setCell (Nat.le_refl _) _).setCell (Nat.le_refl _) _).setCell (Nat.le_refl _) _⟩
end Go.Proofs.YtjmlcobbjpmjpaaGreatDoor
namespace Go.Proofs.YtjmlcobbjpmjpaaGreatDoor
open Go.RowKit Go.Lib

theorem ints_snocL (xs : List Int) (x : Int) : ints xs ++ [.int .i64 x] = ints (xs ++ [x]) := by simp [ints]
theorem info_i64L : (Tryz.prog.info? 2).map (fun i => (i.zero, i.size, i.bytes)) = some (some (.int .i64 0), 1, 8) := by kernel_rfl
theorem codeF_small {s : ByteArray} (h : codeF s = 0) : s.size ≤ 4000 := by
  unfold codeF at h
  split at h
  · cases h
  · omega
theorem codeR_len (s : ByteArray) : (codeR s).list.length ≤ 4000 := by
  unfold codeR
  split
  · rename_i h
    have h1 := codeF_small h
    have h2 := (logR_ok s).len
    have h3 := logR_at s
    omega
  · simp
theorem logR_len {s : ByteArray} (h : codeF s = 0) : (logR s).list.length ≤ 4000 := by
  have := codeR_len s
  rw [codeR_ok h] at this
  exact this
theorem cntEntriesOf_len {s : ByteArray} {m : Nat} (h : (ens (codeR s).list).length = m * 3) : m ≤ 1048576 := by
  rw [ens_length] at h
  have := codeR_len s
  omega
def isW (x : En) (t : ByteArray) : Bool := x.what.toList == t.toList
def valsTo (l : List En) (t : ByteArray) : Nat → List Int
  | 0 => []
  | k + 1 => match l[k]? with
    | none => valsTo l t k
    | some x => if isW x t = true then valsTo l t k ++ [x.val] else valsTo l t k
theorem valsTo_yes {l : List En} {t : ByteArray} {k : Nat} {x : En} (h : l[k]? = some x) (h2 : isW x t = true) : valsTo l t (k + 1) = valsTo l t k ++ [x.val] := by simp [valsTo, h, h2]
theorem valsTo_no {l : List En} {t : ByteArray} {k : Nat} {x : En} (h : l[k]? = some x) (h2 : isW x t = false) : valsTo l t (k + 1) = valsTo l t k := by simp [valsTo, h, h2]
theorem valsTo_len (l : List En) (t : ByteArray) : ∀ k, (valsTo l t k).length ≤ k
  | 0 => by simp [valsTo]
  | k + 1 => by
    have := valsTo_len l t k
    rw [valsTo]
    split
    · omega
    · split
      · simp; omega
      · omega
def whatF (s t : ByteArray) : Int := if codeF s = 0 then (if isName t = true then 0 else 2) else codeF s
theorem whatF_bad {s t : ByteArray} (h : codeF s ≠ 0) : whatF s t = codeF s := by simp [whatF, h]
theorem whatF_name {s t : ByteArray} (h : codeF s = 0) (h2 : isName t = false) : whatF s t = 2 := by simp [whatF, h, h2]
theorem whatF_ok {s t : ByteArray} (h : codeF s = 0) (h2 : isName t = true) : whatF s t = 0 := by simp [whatF, h, h2]
theorem whatF_zero {s t : ByteArray} (h : whatF s t = 0) : codeF s = 0 ∧ isName t = true := by
  unfold whatF at h
  split at h
  · rename_i h1
    refine ⟨h1, ?_⟩
    split at h
    · assumption
    · cases h
  · rename_i h1; exact absurd h h1
def valsF (s t : ByteArray) : List Int := if whatF s t = 0 then valsTo (logR s).list t (logR s).list.length else []
theorem valsF_ok {s t : ByteArray} (h : whatF s t = 0) : valsF s t = valsTo (logR s).list t (logR s).list.length := by simp only [valsF, h, if_true]
theorem valsF_bad {s t : ByteArray} (h : whatF s t ≠ 0) : valsF s t = [] := by simp only [valsF, h, if_false]
theorem cntValuesOf_len {s t : ByteArray} {m : Nat} (h : (ints (valsF s t)).length = m * 1) : m ≤ 1048576 := by
  rw [ints_length] at h
  by_cases hw : whatF s t = 0
  · rw [valsF_ok hw] at h
    have h1 := valsTo_len (logR s).list t (logR s).list.length
    have h2 := logR_len (whatF_zero hw).1
    omega
  · rw [valsF_bad hw] at h
    simp at h
    omega
end Go.Proofs.YtjmlcobbjpmjpaaGreatDoor
namespace Go.Proofs.YtjmlcobbjpmjpaaGreatDoor
open Go.RowKit Go.Lib

def numsF (s : ByteArray) : Option (Int × Int) := match splitS 45 s with
  | [f, t] => if (isDec f.data.toList && isDec t.data.toList) = true then some (numS f.data.toList, numS t.data.toList) else none
  | _ => none
theorem numsF_len {s : ByteArray} (h : (splitS 45 s).length ≠ 2) : numsF s = none := by
  unfold numsF
  split
  · rename_i e; rw [e] at h; simp at h
  · rfl
theorem numsF_two {s f t : ByteArray} (h : splitS 45 s = [f, t]) : numsF s = if (isDec f.data.toList && isDec t.data.toList) = true then some (numS f.data.toList, numS t.data.toList) else none := by simp [numsF, h]
/-- strings.SplitN at one byte, three parts at most: two parts just where there are two. -/
theorem splitN_any (s : ByteArray) (c : UInt8) (m : Int) (w : World) (hs : s.size ≤ 1048576) (hm : w.cell? ⟨0, 0, none⟩ = some (.int .i64 m)) :
    Calls Tryz.prog 156 #[.string s, .string ⟨#[c]⟩, .int .i64 3] w fun e w' => ∃ (n N : Nat), e = .returned (.slice (some ⟨w.heap.size, 0, none⟩) n N) ∧ Below w.heap.size w w' ∧ ((n = 2 ∧ ∃ f t, splitS c s = [f, t] ∧ w'.cell? ⟨w.heap.size, 0, none⟩ = some (.string f) ∧ w'.cell? ⟨w.heap.size, 1, none⟩ = some (.string t)) ∨ (n ≠ 2 ∧ n ≤ 3 ∧ (splitS c s).length ≠ 2)) := by
  have h2 := splitB_two c s (min 3 (s.size + 1) - 1) rfl
  have hle : (splitB ⟨#[c]⟩ 0 (min 3 (s.size + 1) - 1) s).length ≤ 3 := by
    have h := splitB_data ⟨#[c]⟩ 0 (min 3 (s.size + 1) - 1) s
    have hx := of_data h
    rw [hx, List.length_map, show (⟨#[c]⟩ : ByteArray).data.toList = [c] from rfl]
    by_cases hc : s.data.toList.count c ≤ min 3 (s.size + 1) - 1
    · rw [splitK_ge c _ _ hc, splitL_len]
      have : min 3 (s.size + 1) ≤ 3 := Nat.min_le_left _ _
      omega
    · rw [splitK_len c _ _ (by omega)]
      have : min 3 (s.size + 1) ≤ 3 := Nat.min_le_left _ _
      omega
  refine (Tryz.strings_SplitN s ⟨#[c]⟩ 3 m w (by omega) hm (Nat.le_refl 1) (by decide) (by decide)).mono ?_
  rintro e w' ⟨rfl, rfl⟩
  refine ⟨_, _, rfl, (Below.refl _ _).alloc (Nat.le_refl _) _, ?_⟩
  by_cases hl : (splitB ⟨#[c]⟩ 0 (min 3 (s.size + 1) - 1) s).length = 2
  · obtain ⟨e1, e2⟩ := h2.1 hl
    obtain ⟨f, t, e3⟩ := two_of e2
    refine .inl ⟨hl, f, t, e3, ?_, ?_⟩
    · rw [(Blk.new w 9 _).cell, e1, e3]; simp [cellsOf]
    · rw [(Blk.new w 9 _).cell, e1, e3]; simp [cellsOf]
  · exact .inr ⟨hl, hle, h2.2 hl⟩

set_option maxHeartbeats 4000000 in
set_option maxRecDepth 100000 in
theorem readNumbers_any (s : ByteArray) (m : Int) (w : World) (hs : s.size ≤ 1048576) (hm : w.cell? ⟨0, 0, none⟩ = some (.int .i64 m)) (ht : TabP w) (hv : SynP w) :
    Calls Tryz.prog 107 #[.string s, .string ⟨#[45]⟩, .int .i64 2] w fun e w' =>
      (∃ p q g d, numsF s = some (p, q) ∧ e = .returned (.tuple #[.slice (some ⟨g, 0, none⟩) 2 d, .bool true]) ∧ w'.cell? ⟨g, 0, none⟩ = some (.int .i64 p) ∧ w'.cell? ⟨g, 1, none⟩ = some (.int .i64 q) ∧ Below w.heap.size w w') ∨
      (numsF s = none ∧ e = .returned (.tuple #[.slice none 0 0, .bool false]) ∧ Below w.heap.size w w') := by
  have HT := Lib.hid ht
  have HV := Lib.hid hv
  have HSP := Lib.hid (splitN_any s 45 m w hs hm)
  clear ht hv hm
  go_enter Tryz.func107, Tryz.ntmps107
  go_wp2_with fail
  refine HSP.out.mono ?_
  rintro e w1 ⟨n, N, rfl, b1, ⟨rfl, f, t, he, c0, c1⟩ | ⟨hne, hle, hl⟩⟩
  · have HB := Lib.hid b1
    have hz1 := b1.size
    have HE := Lib.hid (numsF_two he)
    have hfs : f.size ≤ 1048576 ∧ t.size ≤ 1048576 := by
      have h1 := congrArg List.length (join_split he)
      simp only [List.map_cons, List.map_nil, joinL, List.length_append, List.length_cons, data_len] at h1
      omega
    have acc0 := Acc.made w1 2 1
    clear b1 he
    go_wp2
    go_loopw [9, 26] (fun out i wr => ∃ (k : Nat) (A' : Option Addr) (q d' : Nat), k ≤ 2 ∧ i = .int .i64 k ∧ out = .slice A' q d' ∧ q = k ∧ (1 ≤ k → isDec f.data.toList = true) ∧ (2 ≤ k → isDec t.data.toList = true) ∧ Acc w1.heap.size w1.heap.size 2 1 w1 wr A' q d' (ints ([numS f.data.toList, numS t.data.toList].take k))) (fun _ i _ => 2 - (RowKit.intOf i).toNat)
    case atStart => exact ⟨0, _, _, _, Nat.zero_le _, rfl, rfl, rfl, fun h => by omega, fun h => by omega, acc0⟩
    case round =>
      obtain ⟨k, A', q, d', hk, rfl, rfl, hqk, h1, h2, hacc⟩ := hrel
      have HA := Lib.hid hacc
      have H1 := Lib.hid h1
      have H2 := Lib.hid h2
      have hbel := HA.out.below (B := w1.heap.size) (Nat.le_refl _) (Nat.le_refl _)
      clear acc0 hacc h1 h2
      by_cases hlt : k < 2
      · obtain ⟨x, hx, hcx, hxs⟩ : ∃ x, (k = 0 ∧ x = f ∨ k = 1 ∧ x = t) ∧ wr.cell? ⟨w.heap.size, k, none⟩ = some (.string x) ∧ x.size ≤ 1048576 := by
          rcases (show k = 0 ∨ k = 1 by omega) with rfl | rfl
          · exact ⟨f, .inl ⟨rfl, rfl⟩, cell_on hbel c0, hfs.1⟩
          · exact ⟨t, .inr ⟨rfl, rfl⟩, cell_on hbel c1, hfs.2⟩
        have HX := Lib.hid hx
        have hi0 : (0 : Int) ≤ k := by omega
        have hi1 : (k : Int) < 2 := by omega
        have hq4 : q ≤ 4 := by omega
        have HQ := Lib.hid hqk
        have HB2 := Lib.hid (bnext HB.out hbel (Nat.le_refl _))
        clear hx hqk hbel
        go_wp2_with fail
        refine (readDecimal_any x _ (by omega) (tabUp HT.out HB2.out) (synUp HV.out HB2.out)).mono ?_
        rintro e w2 ⟨rfl, b2⟩
        have HA2 := Lib.hid (HA.out.on b2 (Nat.le_refl _))
        have HF := Lib.hid (bnext HB2.out b2 (Nat.le_refl _))
        clear b2 hcx
        rcases hd : isDec x.data.toList with _ | _
        · have HO := Lib.hid (show numsF s = none by
            rw [HE.out]
            rcases HX.out with ⟨_, rfl⟩ | ⟨_, rfl⟩
            · rw [hd, Bool.false_and]; rfl
            · rw [hd, Bool.and_false]; rfl)
          rw [readN_no hd]
          clear hd
          go_wp2
          go_ret2
          exact .inr ⟨HO.out, rfl, HF.out⟩
        · have HD := Lib.hid hd
          rw [readN_yes hd]
          clear hd
          obtain ⟨nx, hnx⟩ : ∃ y, numS x.data.toList = y := ⟨_, rfl⟩
          rw [hnx]
          have HN := Lib.hid hnx
          clear hnx
          go_wp2_with (at_builtin; refine wpList_acc rfl _ _ 74 rfl 2 _ 1 8 Tryz.underlying74 info_i64L rfl (by decide) (by decide) HA2.out (Nat.le_refl _) rfl [.int .i64 nx] rfl rfl (fun u hu => by simp at hu; subst hu; rfl) (by omega) ?_; intro A3 d3 w9 hacc2; have HA9 := Lib.hid hacc2; clear hacc2)
          go_roundw
          case rel =>
            have hA9 := HA9.out
            rw [← HN.out] at hA9
            rcases HX.out with ⟨rfl, rfl⟩ | ⟨rfl, rfl⟩
            · exact ⟨1, _, _, _, by omega, by go_num, rfl, by rw [HQ.out], fun _ => HD.out, fun h => by omega, hA9⟩
            · exact ⟨2, _, _, _, by omega, by go_num, rfl, by rw [HQ.out], fun _ => H1.out (by omega), fun _ => HD.out, hA9⟩
          case measure => simp [RowKit.intOf]; omega
      · obtain rfl : k = 2 := by omega
        subst hqk
        have HO := Lib.hid (show numsF s = some (numS f.data.toList, numS t.data.toList) by rw [HE.out, H1.out (by omega), H2.out (by omega)]; rfl)
        have HF := Lib.hid (bnext HB.out hbel (Nat.le_refl _))
        have hsl := HA.out.sl (lo := w1.heap.size) (Nat.le_refl _) (Nat.le_refl _)
        obtain ⟨g, rfl, _, _, _⟩ := hsl.lt (by omega)
        have HS := Lib.hid hsl
        clear hbel hsl
        go_wp2
        go_ret2
        exact .inl ⟨_, _, g, d', HO.out, rfl, HS.out.cellAt 0 (by omega), HS.out.cellAt 1 (by omega), HF.out⟩
  · have HB := Lib.hid b1
    have HO := Lib.hid (numsF_len hl)
    have hq : ((n : Int) != 2) = true := by rw [bne_iff_ne]; omega
    have hq2 : ((n : Int) == 2) = false := by rw [beq_eq_false_iff_ne]; omega
    clear b1 hl
    go_wp2
    go_ret2
    exact .inr ⟨HO.out, rfl, HB.out⟩
end Go.Proofs.YtjmlcobbjpmjpaaGreatDoor
