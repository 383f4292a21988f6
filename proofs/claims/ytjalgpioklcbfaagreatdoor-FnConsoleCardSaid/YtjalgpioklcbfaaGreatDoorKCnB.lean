/- Copies of lists, two lists as one, a desk copied, as the program does it. -/
import Derived.Test.YtjalgpioklcbfaaGreatDoorMgConsoleAK
import Derived.Test.YtjalgpioklcbfaaGreatDoorMgConsoleAA
import Derived.Test.YtjalgpioklcbfaaGreatDoorMgConsoleAO
import Derived.Test.YtjalgpioklcbfaaGreatDoorKGrw
set_option linter.unusedVariables false
set_option linter.unusedSimpArgs false
namespace Go.Proofs.YtjalgpioklcbfaaGreatDoor
open Go.RowKit Go.Lib

/-- A list that is copied has an address of the plain kind, or none. -/
def PlainA (A : Option Addr) : Prop := ∀ ad, A = some ad → ad.spot = none
set_option maxRecDepth 100000 in
theorem cloneI_any (A : Option Addr) (n c B : Nat) (l : List Int) (w : World) (hA : PlainA A) (h : Reads w B 1 A n (ints l)) (hn : n ≤ 1048576) :
    Calls Tryz.prog 75 #[.slice A n c] w fun e w' => ∃ A' d', e = .returned (.slice A' n d') ∧ Sl w' w.heap.size w'.heap.size 2 1 A' n d' (ints l) ∧ Below w.heap.size w w' := by
  cases A with
  | none =>
    have h0 : n = 0 := by
      by_cases h1 : 0 < n
      · obtain ⟨ad, e, _⟩ := h.2 h1; cases e
      · omega
    subst h0
    have HL := Lib.hid (show ints l = [] from List.eq_nil_of_length_eq_zero (by have := h.1; omega))
    clear h
    have hq := fun w => Lib.run_eql_slice_nil (P := Tryz.prog) w 29 _ none 0 c 0 0 Tryz.underlying29
    simp only [Option.isNone_none] at hq
    go_enter Tryz.func75, Tryz.ntmps75
    go_wp2
    go_ret
    exact ⟨none, 0, rfl, by rw [HL.out]; exact Sl.nil _ _ _ _ _, Below.refl _ _⟩
  | some ad =>
    obtain ⟨b, off, sp⟩ := ad
    obtain rfl : sp = none := hA _ rfl
    have HC := Lib.hid (show ∀ j u, (ints l)[j]? = some u → w.cell? ⟨b, off + j, none⟩ = some u by
      by_cases h1 : 0 < n
      · obtain ⟨b', off', e, _, hc⟩ := h.at_ h1
        injection e with e
        injection e with e1 e2
        subst e1
        subst e2
        exact hc
      · intro j u hu
        have := (List.getElem?_eq_some_iff.1 hu).1
        rw [h.1] at this
        omega)
    have HL := Lib.hid h.1
    have acc0 := Acc.made w 2 1
    have HA := Lib.hid acc0
    clear h acc0
    have hBm := (Below.refl w.heap.size w).alloc (Nat.le_refl _) (.cells #[] 2)
    have HBM := Lib.hid hBm
    clear hBm
    have hq := fun w => Lib.run_eql_slice_nil (P := Tryz.prog) w 29 _ (some ⟨b, off, none⟩) n c 0 0 Tryz.underlying29
    simp only [Option.isNone_some] at hq
    go_enter Tryz.func75, Tryz.ntmps75
    go_wp2_with (at_builtin; refine wpList_accMany rfl _ _ 29 rfl 2 _ 1 8 Tryz.underlying29 info_i64L rfl (by decide) (by decide) HA.out (Nat.le_refl _) rfl b off n c (ints l) rfl HL.out (fun j u hu => cell_on HBM.out (HC.out j u hu)) (fun u hu => by simp [ints] at hu; obtain ⟨z, _, rfl⟩ := hu; rfl) (by omega) ?_; intro A3 d3 w9 hacc2; have HA9 := Lib.hid hacc2; clear hacc2)
    go_ret
    have h9 := HA9.out
    rw [Nat.zero_add, List.nil_append] at h9
    exact ⟨A3, d3, by rfl, h9.sl (Nat.le_refl _) (Nat.le_refl _), h9.below (Nat.le_refl _) (Nat.le_refl _)⟩
set_option maxRecDepth 100000 in
theorem cloneT_any (A : Option Addr) (n c B : Nat) (l : List Tb) (w : World) (hA : PlainA A) (h : Reads w B 3 A n (tbs l)) (hn : n ≤ 1048576) :
    Calls Tryz.prog 74 #[.slice A n c] w fun e w' => ∃ A' d', e = .returned (.slice A' n d') ∧ Sl w' w.heap.size w'.heap.size 101 3 A' n d' (tbs l) ∧ Below w.heap.size w w' := by
  cases A with
  | none =>
    have h0 : n = 0 := by
      by_cases h1 : 0 < n
      · obtain ⟨ad, e, _⟩ := h.2 h1; cases e
      · omega
    subst h0
    have HL := Lib.hid (show tbs l = [] from List.eq_nil_of_length_eq_zero (by have := h.1; omega))
    clear h
    have hq := fun w => Lib.run_eql_slice_nil (P := Tryz.prog) w 26 _ none 0 c 0 0 Tryz.underlying26
    simp only [Option.isNone_none] at hq
    go_enter Tryz.func74, Tryz.ntmps74
    go_wp2
    go_ret
    exact ⟨none, 0, rfl, by rw [HL.out]; exact Sl.nil _ _ _ _ _, Below.refl _ _⟩
  | some ad =>
    obtain ⟨b, off, sp⟩ := ad
    obtain rfl : sp = none := hA _ rfl
    have HC := Lib.hid (show ∀ j u, (tbs l)[j]? = some u → w.cell? ⟨b, off + j, none⟩ = some u by
      by_cases h1 : 0 < n
      · obtain ⟨b', off', e, _, hc⟩ := h.at_ h1
        injection e with e
        injection e with e1 e2
        subst e1
        subst e2
        exact hc
      · intro j u hu
        have := (List.getElem?_eq_some_iff.1 hu).1
        rw [h.1] at this
        omega)
    have HL := Lib.hid h.1
    have acc0 := Acc.made w 101 3
    have HA := Lib.hid acc0
    clear h acc0
    have hBm := (Below.refl w.heap.size w).alloc (Nat.le_refl _) (.cells #[] 101)
    have HBM := Lib.hid hBm
    clear hBm
    have hq := fun w => Lib.run_eql_slice_nil (P := Tryz.prog) w 26 _ (some ⟨b, off, none⟩) n c 0 0 Tryz.underlying26
    simp only [Option.isNone_some] at hq
    go_enter Tryz.func74, Tryz.ntmps74
    go_wp2_with (at_builtin; refine wpList_accMany rfl _ _ 26 rfl 101 _ 3 24 Tryz.underlying26 info_tb9 rfl (by decide) (by decide) HA.out (Nat.le_refl _) rfl b off n c (tbs l) rfl HL.out (fun j u hu => cell_on HBM.out (HC.out j u hu)) (fun u hu => by simp only [tbs, List.mem_flatMap] at hu; obtain ⟨t, _, hu⟩ := hu; exact tb_one9 t u hu) (by omega) ?_; intro A3 d3 w9 hacc2; have HA9 := Lib.hid hacc2; clear hacc2)
    go_ret
    have h9 := HA9.out
    rw [Nat.zero_add, List.nil_append] at h9
    exact ⟨A3, d3, by rfl, h9.sl (Nat.le_refl _) (Nat.le_refl _), h9.below (Nat.le_refl _) (Nat.le_refl _)⟩
theorem Reads.cells {w : World} {B size n b off : Nat} {xs : List Value} (h : Reads w B size (some ⟨b, off, none⟩) n xs) : ∀ j u, xs[j]? = some u → w.cell? ⟨b, off + j, none⟩ = some u := by
  by_cases h1 : 0 < n
  · obtain ⟨b', off', e, _, hc⟩ := h.at_ h1
    injection e with e
    injection e with e1 e2
    subst e1
    subst e2
    exact hc
  · intro j u hu
    have h2 := (List.getElem?_eq_some_iff.1 hu).1
    have h3 := h.1
    obtain rfl : n = 0 := by omega
    omega
set_option maxRecDepth 100000 in
theorem growNil_any (n : Nat) (w : World) (h0 : 0 < n) (hn : n ≤ 1048576) :
    Calls Tryz.prog 149 #[.slice none 0 0, .int .i64 (n : Int)] w fun e w' => ∃ A c, e = .returned (.slice A 0 c) ∧ Acc w.heap.size w.heap.size 2 1 w w' A 0 c [] := by
  obtain ⟨i, hi, hz, hsize, hby⟩ := info_parts info_i64L
  have hg := Any8.slices_Grow_grow Tryz.growI i (.int .i64 0) hi hz (by omega) none 0 0 n [] w (by omega) (by omega) (by rw [hby]; omega) (by omega) (by simp) (fun _ => rfl) (fun a ha => by cases ha)
  refine hg.mono ?_
  rintro e w' ⟨rfl, rfl⟩
  have hge := grownCap_ge w n 0 (Tryz.growI_ren.t 25)
  have hle := grownCap_le_maxLen w (0 + n) 0 2 (by unfold maxLen; omega)
  refine ⟨_, _, rfl, ⟨⟨rfl, .inr ⟨w.heap.size, _, _, rfl, Nat.zero_le _, heap_alloc_new _ _, Nat.zero_le _, hle, ?_, by simp⟩⟩, fun a ha => by injection ha with ha; subst ha; exact .inl rfl, rfl, rfl, rfl, by simp, fun k hk _ => ?_⟩⟩
  · rw [Array.size_append, Array.size_append, size_zeroCells, size_zeroCells]
    simp [Value.cells]
    omega
  · exact Below.heap_alloc _ _ _ hk
set_option maxRecDepth 100000 in
theorem concat2_any (g b1 o1 n1 c1 b2 o2 n2 c2 B : Nat) (l1 l2 : List Int) (w : World) (hy : Blk w g 29 #[.slice (some ⟨b1, o1, none⟩) n1 c1, .slice (some ⟨b2, o2, none⟩) n2 c2]) (h1 : Reads w B 1 (some ⟨b1, o1, none⟩) n1 (ints l1)) (h2 : Reads w B 1 (some ⟨b2, o2, none⟩) n2 (ints l2)) (hB : B ≤ w.heap.size) (hn1 : n1 ≤ 1000) (hn2 : n2 ≤ 1000) (h0 : 0 < n1) :
    Calls Tryz.prog 85 #[.slice (some ⟨g, 0, none⟩) 2 2] w fun e w' => ∃ A c, e = .returned (.slice A (n1 + n2) c) ∧ Sl w' w.heap.size w'.heap.size 2 1 A (n1 + n2) c (ints (l1 ++ l2)) ∧ Below w.heap.size w w' := by
  have k0 := hy.cellAt 0 (by simp)
  have k1 := hy.cellAt 1 (by simp)
  simp only [List.getElem_toArray, List.getElem_cons_zero, List.getElem_cons_succ] at k0 k1
  have HY := Lib.hid hy
  have H1 := Lib.hid h1
  have H2 := Lib.hid h2
  have HI := Lib.hid (show ints (l1 ++ l2) = ints l1 ++ ints l2 by simp [ints])
  clear hy h1 h2
  go_enter Tryz.func85, Tryz.ntmps85
  go_wp2_with fail
  go_loopw [3, 11] (fun s i wr => wr = w ∧ ∃ k : Nat, k ≤ 2 ∧ i = .int .i64 (k : Int) ∧ s = .int .i64 (if k = 0 then 0 else if k = 1 then (n1 : Int) else ((n1 + n2 : Nat) : Int))) (fun _ i _ => 2 - (RowKit.intOf i).toNat)
  case atStart => exact ⟨rfl, 0, by omega, rfl, rfl⟩
  case round =>
    rename World => wr
    obtain ⟨hw, k, hk, rfl, rfl⟩ := hrel
    subst hw
    have : k = 0 ∨ k = 1 ∨ k = 2 := by omega
    rcases this with rfl | rfl | rfl
    · go_wp2
      go_roundw
      case rel => exact ⟨trivial, 1, by omega, rfl, by simp⟩
      case measure => simp [RowKit.intOf]
    · have e1 : IntKind.i64.wrap ((n1 : Int) + n2) = (n1 : Int) + n2 := by unfold IntKind.wrap; simp [IntKind.bits, IntKind.signed]; omega
      go_wp2
      go_roundw
      case rel => exact ⟨trivial, 2, by omega, rfl, by simp⟩
      case measure => simp [RowKit.intOf]
    · clear k0 k1
      go_wp2_with fail
      refine (growNil_any (n1 + n2) wr (by omega) (by omega)).mono ?_
      rintro e w1 ⟨A, c, rfl, acc0⟩
      have HA := Lib.hid acc0
      have hb := acc0.below (B := wr.heap.size) (Nat.le_refl _) (Nat.le_refl _)
      have HB1 := Lib.hid hb
      clear acc0 hb
      go_wp2_with fail
      go_loopw [6, 27] (fun o i wx => ∃ (k : Nat) (A' : Option Addr) (q d' : Nat), k ≤ 2 ∧ i = .int .i64 (k : Int) ∧ o = .slice A' q d' ∧ q = (if k = 0 then 0 else if k = 1 then n1 else n1 + n2) ∧ Acc wr.heap.size wr.heap.size 2 1 wr wx A' q d' (if k = 0 then [] else if k = 1 then ints l1 else ints l1 ++ ints l2)) (fun _ i _ => 2 - (RowKit.intOf i).toNat)
      case atStart => exact ⟨0, _, _, _, by omega, rfl, rfl, rfl, HA.out⟩
      case round =>
        rename World => wx
        obtain ⟨k, A', q, d', hk, rfl, rfl, hq, hacc⟩ := hrel
        have hn12 : n1 + n2 ≤ 2000 := by omega
        have HX := Lib.hid hacc
        have hb := hacc.below (B := wr.heap.size) (Nat.le_refl _) (Nat.le_refl _)
        have HBx := Lib.hid hb
        have c0 := (HY.out.on hb).cellAt 0 (by simp)
        have c1 := (HY.out.on hb).cellAt 1 (by simp)
        simp only [List.getElem_toArray, List.getElem_cons_zero, List.getElem_cons_succ] at c0 c1
        clear hacc hb
        have : k = 0 ∨ k = 1 ∨ k = 2 := by omega
        rcases this with rfl | rfl | rfl
        · simp only [if_true] at hq HX
          subst hq
          have HC := Lib.hid (H1.out.on hB HBx.out).cells
          go_wp2_with (at_builtin; refine wpList_accMany rfl _ _ 29 rfl 2 _ 1 8 Tryz.underlying29 info_i64L rfl (by decide) (by decide) HX.out (Nat.le_refl _) rfl b1 o1 n1 _ (ints l1) rfl H1.out.1 HC.out (fun u hu => by simp [ints] at hu; obtain ⟨z, _, rfl⟩ := hu; rfl) (by omega) ?_; intro A3 d3 w9 hacc2; have HA9 := Lib.hid hacc2; clear hacc2)
          go_roundw
          case rel => exact ⟨1, A3, _, d3, by omega, rfl, rfl, by simp, by simpa using HA9.out⟩
          case measure => simp [RowKit.intOf]
        · have HX1 := Lib.hid (show Acc wr.heap.size wr.heap.size 2 1 wr wx A' n1 d' (ints l1) by have h := HX.out; have e := hq; simp only [Nat.one_ne_zero, if_false, if_true] at h e; subst e; exact h)
          obtain rfl : q = n1 := by simpa using hq
          clear HX hq
          have HC := Lib.hid (H2.out.on hB HBx.out).cells
          go_wp2_with (at_builtin; refine wpList_accMany rfl _ _ 29 rfl 2 _ 1 8 Tryz.underlying29 info_i64L rfl (by decide) (by decide) HX1.out (Nat.le_refl _) rfl b2 o2 n2 _ (ints l2) rfl H2.out.1 HC.out (fun u hu => by simp [ints] at hu; obtain ⟨z, _, rfl⟩ := hu; rfl) (by omega) ?_; intro A3 d3 w9 hacc2; have HA9 := Lib.hid hacc2; clear hacc2)
          go_roundw
          case rel => exact ⟨2, A3, _, d3, by omega, rfl, rfl, by simp, by simpa using HA9.out⟩
          case measure => simp [RowKit.intOf]
        · have HX1 := Lib.hid (show Acc wr.heap.size wr.heap.size 2 1 wr wx A' (n1 + n2) d' (ints l1 ++ ints l2) by have h := HX.out; have e := hq; simp at h e; subst e; exact h)
          obtain rfl : q = n1 + n2 := by simpa using hq
          clear HX hq c0 c1
          go_wp2
          go_ret
          exact ⟨A', d', rfl, by rw [HI.out]; exact HX1.out.sl (Nat.le_refl _) (Nat.le_refl _), HX1.out.below (Nat.le_refl _) (Nat.le_refl _)⟩
theorem words_any (x : En) (w : World) (hd : i64b x.day) (hv : i64b x.val) (ht : TabP w) (hz : x.what.size ≤ 1048576) :
    Calls Tryz.prog 95 #[.agg #[.int .i64 x.day, .string x.what, .int .i64 x.val]] w fun e w' => e = .returned (.string (asBytes (itoa x.day) ++ ⟨#[32]⟩ ++ x.what ++ ⟨#[32]⟩ ++ asBytes (itoa x.val))) ∧ Below w.heap.size w w' := by
  obtain ⟨W, hW, y0, hb⟩ : ∃ W, W = w.alloc (.cells #[.int .i64 x.day, .string x.what, .int .i64 x.val] 145) ∧ Blk W w.heap.size 145 #[.int .i64 x.day, .string x.what, .int .i64 x.val] ∧ Below w.heap.size w W := ⟨_, rfl, Blk.new _ _ _, (Below.refl _ _).alloc (Nat.le_refl _) _⟩
  have HW := Lib.hid hW
  have HB := Lib.hid hb
  have HT := Lib.hid (tabUp ht hb)
  have p0 := y0.cellAt 0 (by simp)
  have p1 := y0.cellAt 1 (by simp)
  have p2 := y0.cellAt 2 (by simp)
  simp only [List.getElem_toArray, List.getElem_cons_zero, List.getElem_cons_succ] at p0 p1 p2
  have hs1 : (asBytes (itoa x.day)).size ≤ 20 := by rw [asBytes_size]; exact itoa_len hd.1 hd.2
  have hs3 : (asBytes (itoa x.val)).size ≤ 20 := by rw [asBytes_size]; exact itoa_len hv.1 hv.2
  have n1 : ¬ (9223372036854775807 < (asBytes (itoa x.day)).size + 1) := by omega
  have n2 : ¬ (9223372036854775807 < (asBytes (itoa x.day)).size + 1 + x.what.size) := by omega
  have n3 : ¬ (9223372036854775807 < (asBytes (itoa x.day)).size + 1 + x.what.size + 1) := by omega
  have n4 : ¬ (9223372036854775807 < (asBytes (itoa x.day)).size + 1 + x.what.size + 1 + (asBytes (itoa x.val)).size) := by omega
  clear hW hb y0 ht
  go_enter Tryz.func95, Tryz.ntmps95
  go_upto_region 1 with fail
  rw [← HW.out]
  refine wp_region_held_drew (S := (fun V => Below W.heap.size W V)) (by kernel_rfl) ?_ (fun hHeld => ?_)
  · exact (Below.refl _ _).drew
  refine tk 0 rfl ?_ ?_ ?_
  rotate_left
  · intro w _; go_simp; try with_reducible rfl
  try simp only [Act.put, ly]
  refine tk 1 rfl ?_ ?_ ?_
  rotate_left
  · intro w hSw; (try dsimp only at hSw); (have e0 := cell_on hSw p0); (have e1 := cell_on hSw p1); (have e2 := cell_on hSw p2); go_simp; try with_reducible rfl
  try simp only [Act.put, ly]
  refine tk 4 rfl ?_ ?_ ?_
  rotate_left
  · intro w _; go_simp; try with_reducible rfl
  try simp only [Act.put, ly]
  refine tk 5 rfl ?_ ?_ ?_
  rotate_left
  · intro w hSw; (try dsimp only at hSw); (have e0 := cell_on hSw p0); (have e1 := cell_on hSw p1); (have e2 := cell_on hSw p2); go_simp; try with_reducible rfl
  try simp only [Act.put, ly]
  refine tk 8 rfl ?_ ?_ ?_
  rotate_left
  · intro w _; go_simp; try with_reducible rfl
  try simp only [Act.put, ly]
  refine tk 9 rfl ?_ ?_ ?_
  rotate_left
  · intro w hSw; (try dsimp only at hSw); (have e0 := cell_on hSw p0); (have e1 := cell_on hSw p1); (have e2 := cell_on hSw p2); go_simp; try with_reducible rfl
  try simp only [Act.put, ly]
  refine wpAnyH_ready (rs := [2]) (by kernel_rfl) (by simp) ?_
  refine AllReadyH.cons rfl (fun K hK => ?_) AllReadyH.nil
  go_simp
  refine (decimal_any x.day _ hd.1 hd.2 (tabUp HT.out hHeld)).mono ?_
  rintro e v5 ⟨rfl, b5⟩
  go_wp2_with fail
  refine hK.out _ _ ?_ (fun hNew => ?_)
  · exact bnext hHeld b5 (Nat.le_refl _)
  clear hK K hHeld
  have hHeld := hNew
  clear hNew
  try simp only [Act.put, ly]
  refine tk 3 rfl ?_ ?_ ?_
  rotate_left
  · intro w _; go_simp; try with_reducible rfl
  try simp only [Act.put, ly]
  refine tk 6 rfl ?_ ?_ ?_
  rotate_left
  · intro w _; go_simp; try with_reducible rfl
  try simp only [Act.put, ly]
  refine tk 7 rfl ?_ ?_ ?_
  rotate_left
  · intro w _; go_simp; try with_reducible rfl
  try simp only [Act.put, ly]
  refine wpAnyH_ready (rs := [10]) (by kernel_rfl) (by simp) ?_
  refine AllReadyH.cons rfl (fun K hK => ?_) AllReadyH.nil
  go_simp
  refine (decimal_any x.val _ hv.1 hv.2 (tabUp HT.out hHeld)).mono ?_
  rintro e v6 ⟨rfl, b6⟩
  go_wp2_with fail
  refine hK.out _ _ ?_ (fun hNew => ?_)
  · exact bnext hHeld b6 (Nat.le_refl _)
  clear hK K hHeld
  have hHeld := hNew
  clear hNew
  try simp only [Act.put, ly]
  refine tk 11 rfl ?_ ?_ ?_
  rotate_left
  · intro w _; go_simp; try with_reducible rfl
  try simp only [Act.put, ly]
  refine tk 12 rfl ?_ ?_ ?_
  rotate_left
  · intro w _; go_simp; try with_reducible rfl
  try simp only [Act.put, ly]
  refine wpAnyH_done (by kernel_rfl) ?_ _
  have HF := Lib.hid hHeld
  clear hHeld
  go_wp2
  go_ret
  exact ⟨rfl, bnext HB.out HF.out (Nat.le_refl _)⟩
set_option maxRecDepth 100000 in
theorem okLine_any (A : Option Addr) (n c lo : Nat) (xs : List ByteArray) (w : World) (h : Sl w lo w.heap.size 9 1 A n c (strs xs)) (hlo : lo ≤ w.heap.size) (hn : n ≤ 1048576) (ht : TabP w) :
    Calls Tryz.prog 86 #[.slice A n c] w fun e w' => ∃ A' c', e = .returned (.slice A' (n + 1) c') ∧ Sl w' lo w'.heap.size 9 1 A' (n + 1) c' (strs (xs ++ [⟨#[111, 107, 32]⟩ ++ asBytes (itoa (n : Int))])) ∧ Below lo w w' ∧ Off (inB A) w w' := by
  have HS := Lib.hid h
  have HT := Lib.hid ht
  clear h ht
  have hs1 : (asBytes (itoa (n : Int))).size ≤ 20 := by rw [asBytes_size]; exact itoa_len (by omega) (by omega)
  have n1 : ¬ (9223372036854775807 < 3 + (asBytes (itoa (n : Int))).size) := by omega
  go_enter Tryz.func86, Tryz.ntmps86
  go_wp2_with fail
  refine (decimal_any n w (by omega) (by omega) HT.out).mono ?_
  rintro e w1 ⟨rfl, b1⟩
  have HB1 := Lib.hid b1
  have HS1 := Lib.hid (HS.out.on b1).low
  have hlo1 : lo ≤ w1.heap.size := Nat.le_trans hlo b1.size
  clear b1
  go_wp2_with (at_builtin; refine wpList_oneF rfl _ _ 24 rfl 9 _ 1 16 Tryz.underlying24 info_str9 rfl (by decide) (by decide) HS1.out hlo1 rfl [.string ((⟨#[111, 107, 32]⟩ : ByteArray) ++ asBytes (itoa (n : Int)))] w1.heap.size rfl rfl rfl (fun u hu => by simp at hu; subst hu; rfl) (by omega) ?_; intro A2 d2 w9 hs9 b9 z9 f9 k9; have HS9 := Lib.hid hs9; have HB9 := Lib.hid b9; have HF9 := Lib.hid f9; clear hs9 b9 z9 f9 k9)
  go_ret
  exact ⟨A2, d2, rfl, by rw [strs_snoc9]; exact HS9.out, (HB1.out.mono hlo).trans HB9.out, (Off.of_below HB1.out _).trans (off_of HB9.out HF9.out)⟩
end Go.Proofs.YtjalgpioklcbfaaGreatDoor
