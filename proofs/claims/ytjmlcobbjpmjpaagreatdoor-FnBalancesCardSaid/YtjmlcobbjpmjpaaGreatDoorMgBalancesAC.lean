/- slices' insertionSort and symMerge at strings: what they leave is in order, the same things. slices' symMerge at strings: two neighbouring stretches in order become one in order. slices' stable sort at strings: the same things, in order. -/
import Derived.Test.YtjmlcobbjpmjpaaGreatDoorMgBalancesAB
import Derived.Deep.DeepCutAuto
set_option linter.unusedVariables false
set_option linter.unusedSimpArgs false
namespace Go.Proofs.YtjmlcobbjpmjpaaGreatDoor
open Go.RowKit Stb

theorem lt_yes {cf : ByteArray → ByteArray → Int} {x y : ByteArray} (h : cf x y < 0) : (fun x y => decide (cf x y < 0)) x y = true := decide_eq_true h
theorem lt_no {cf : ByteArray → ByteArray → Int} {x y : ByteArray} (h : ¬ cf x y < 0) : (fun x y => decide (cf x y < 0)) x y = false := decide_eq_false h

set_option maxHeartbeats 2000000 in
set_option maxRecDepth 100000 in
theorem insertion_any (g n c lo hi a b g2 g3 : Nat) (f : Nat → ByteArray) (cf : ByteArray → ByteArray → Int) (R S : ByteArray → ByteArray → Prop) (w0 w : World) (h : Sl w lo hi 9 1 (some ⟨g, 0, none⟩) n c (strs (row (f) n))) (hb : b ≤ n) (han : a ≤ n) (hn : n ≤ 1000000000) (ho : Only g (g + 1) w0 w) (hc : CmpAt w0 g g2 g3 cf) (hord : Ord3 (fun x y => decide (cf x y < 0)) R S) (hs : Srt S f a b) :
    Calls Tryz.prog 180 #[.slice (some ⟨g, 0, none⟩) n c, .int .i64 (a : Int), .int .i64 (b : Int), .func (.func 78) #[] #[.pointer (some ⟨g2, 0, none⟩), .pointer (some ⟨g3, 0, none⟩)]] w fun e w' => e = .returned (.tuple #[]) ∧ ∃ f' : Nat → ByteArray, Sl w' lo hi 9 1 (some ⟨g, 0, none⟩) n c (strs (row (f') n)) ∧ Turned f f' a b n ∧ Srt R f' a b ∧ Only g (g + 1) w0 w' := by
  have HH := Lib.hid h
  have HO0 := Lib.hid ho
  have HC := Lib.hid hc
  have HSS := Lib.hid hs
  clear h ho hc hs
  have haw : IntKind.i64.wrap ((a : Int) + 1) = (a : Int) + 1 := by rw [IntKind.wrap_i64]; omega
  go_enter Tryz.func180, Tryz.ntmps180
  go_wp2
  go_loopw [8] (fun p wr => ∃ (i : Nat) (f1 : Nat → ByteArray), a + 1 ≤ i ∧ (i ≤ b ∨ i = a + 1) ∧ p = .int .i64 (i : Int) ∧ Sl wr lo hi 9 1 (some ⟨g, 0, none⟩) n c (strs (row (f1) n)) ∧ Turned f f1 a i n ∧ Srt R f1 a i ∧ Only g (g + 1) w0 wr) (fun p _ => b - (intOf p).toNat)
  case atStart => exact ⟨a + 1, f, Nat.le_refl _, Or.inr rfl, by go_num, HH.out, Turned.refl _ _ _ _, fun i j q1 q2 q3 => by omega, HO0.out⟩
  case round =>
    obtain ⟨i, f1, hi1, hi2, rfl, hsl, ht, hsr, ho⟩ := hrel
    have HSL0 := Lib.hid hsl
    have HT := Lib.hid ht
    have HSR := Lib.hid hsr
    have HO0' := Lib.hid ho
    clear hsl ht hsr ho HO0 HH haw
    by_cases hlt : i < b
    · have HCR := Lib.hid (show Crs S f1 a i (i + 1) from HT.out.crs_out (x := a) (y := i) (z := i + 1) (fun x y q1 q2 q3 q4 => HSS.out x y q1 (by omega) (by omega)) (Or.inl ⟨Nat.le_refl _, Nat.le_refl _⟩))
      go_wp2
      rename World => wo
      go_loopw [9] (fun p wr => ∃ j : Nat, a ≤ j ∧ j ≤ i ∧ p = .int .i64 (j : Int) ∧ Sl wr lo hi 9 1 (some ⟨g, 0, none⟩) n c (strs (row (rota f1 j i (i + 1)) n)) ∧ (j = i ∨ (fun x y => decide (cf x y < 0)) (f1 i) (f1 j) = true) ∧ Only g (g + 1) w0 wr) (fun p _ => (intOf p).toNat)
      case atStart => exact ⟨i, by omega, Nat.le_refl _, rfl, by rw [rota_nil f1 i i (i + 1) (Or.inl rfl) (Nat.le_refl _) (by omega)]; exact HSL0.out, Or.inl rfl, HO0'.out⟩
      case round =>
        obtain ⟨j, hj0, hji, rfl, hsl, hjl, ho⟩ := hrel
        have HSL := Lib.hid hsl
        have HO := Lib.hid ho
        have HJ := Lib.hid hjl
        clear hsl ho hjl HSL0 HO0'
        by_cases hja : j = a
        · have hg1 : decide ((a : Int) < (j : Int)) = false := decide_eq_false (by omega)
          have hg2 : decide (a < j) = false := decide_eq_false (by omega)
          have HSd := Lib.hid (show Sl wr.drew lo hi 9 1 (some ⟨g, 0, none⟩) n c (strs (row (rota f1 j i (i + 1)) n)) from HSL.out.keep fun _ _ _ _ => rfl)
          have HOd := Lib.hid (show Only g (g + 1) w0 wr.drew from ⟨HO.out.os, HO.out.tape, HO.out.output, HO.out.size, HO.out.block⟩)
          go_wp2_with fail
          refine wp_region_held_drew (S := (fun _ => True)) (by kernel_rfl) ?_ (fun hHeld => ?_)
          · trivial
          refine wpAnyH_take (i := 0) (v := ?_) rfl (by kernel_rfl) (by kernel_rfl) (by kernel_rfl) (fun _ _ _ h => h) (Or.inl ⟨by kernel_rfl, ?_⟩) (by assumption) ?_
          rotate_left 1
          · intro w hSw; (try dsimp only at hSw); go_simp; try with_reducible rfl
          try simp only [Act.put, List.getElem_toArray, List.getElem_cons_succ, List.getElem_cons_zero, List.setIfInBounds_toArray, List.set_cons_zero, List.set_cons_succ]
          refine wpAnyH_take (i := 1) (v := ?_) rfl (by kernel_rfl) (by kernel_rfl) (by kernel_rfl) (fun _ _ _ h => h) (Or.inl ⟨by kernel_rfl, ?_⟩) (by assumption) ?_
          rotate_left 1
          · intro w hSw; (try dsimp only at hSw); go_simp; try with_reducible rfl
          try simp only [Act.put, List.getElem_toArray, List.getElem_cons_succ, List.getElem_cons_zero, List.setIfInBounds_toArray, List.set_cons_zero, List.set_cons_succ]
          refine wpAnyH_take (i := 2) (v := ?_) rfl (by kernel_rfl) (by kernel_rfl) (by kernel_rfl) (fun _ _ _ h => h) (Or.inl ⟨by kernel_rfl, ?_⟩) (by assumption) ?_
          rotate_left 1
          · intro w hSw; (try dsimp only at hSw); go_simp; try with_reducible rfl
          try simp only [Act.put, List.getElem_toArray, List.getElem_cons_succ, List.getElem_cons_zero, List.setIfInBounds_toArray, List.set_cons_zero, List.set_cons_succ]
          refine wpAnyH_take (i := 3) (v := ?_) rfl (by kernel_rfl) (by kernel_rfl) (by kernel_rfl) (fun _ _ _ h => h) (Or.inl ⟨by kernel_rfl, ?_⟩) (by assumption) ?_
          rotate_left 1
          · intro w hSw; (try dsimp only at hSw); go_simp; try with_reducible rfl
          try simp only [Act.put, List.getElem_toArray, List.getElem_cons_succ, List.getElem_cons_zero, List.setIfInBounds_toArray, List.set_cons_zero, List.set_cons_succ]
          refine wpAnyH_take (i := 4) (v := undef) rfl (by kernel_rfl) (by kernel_rfl) (by kernel_rfl) (fun _ _ _ h => h) (Or.inr ⟨by kernel_rfl, rfl⟩) (by assumption) ?_
          try simp only [Act.put, List.getElem_toArray, List.getElem_cons_succ, List.getElem_cons_zero, List.setIfInBounds_toArray, List.set_cons_zero, List.set_cons_succ]
          refine wpAnyH_take (i := 5) (v := undef) rfl (by kernel_rfl) (by kernel_rfl) (by kernel_rfl) (fun _ _ _ h => h) (Or.inr ⟨by kernel_rfl, rfl⟩) (by assumption) ?_
          try simp only [Act.put, List.getElem_toArray, List.getElem_cons_succ, List.getElem_cons_zero, List.setIfInBounds_toArray, List.set_cons_zero, List.set_cons_succ]
          refine wpAnyH_take (i := 6) (v := undef) rfl (by kernel_rfl) (by kernel_rfl) (by kernel_rfl) (fun _ _ _ h => h) (Or.inr ⟨by kernel_rfl, rfl⟩) (by assumption) ?_
          try simp only [Act.put, List.getElem_toArray, List.getElem_cons_succ, List.getElem_cons_zero, List.setIfInBounds_toArray, List.set_cons_zero, List.set_cons_succ]
          refine wpAnyH_take (i := 7) (v := undef) rfl (by kernel_rfl) (by kernel_rfl) (by kernel_rfl) (fun _ _ _ h => h) (Or.inr ⟨by kernel_rfl, rfl⟩) (by assumption) ?_
          try simp only [Act.put, List.getElem_toArray, List.getElem_cons_succ, List.getElem_cons_zero, List.setIfInBounds_toArray, List.set_cons_zero, List.set_cons_succ]
          refine wpAnyH_take (i := 8) (v := undef) rfl (by kernel_rfl) (by kernel_rfl) (by kernel_rfl) (fun _ _ _ h => h) (Or.inr ⟨by kernel_rfl, rfl⟩) (by assumption) ?_
          try simp only [Act.put, List.getElem_toArray, List.getElem_cons_succ, List.getElem_cons_zero, List.setIfInBounds_toArray, List.set_cons_zero, List.set_cons_succ]
          refine wpAnyH_take (i := 9) (v := undef) rfl (by kernel_rfl) (by kernel_rfl) (by kernel_rfl) (fun _ _ _ h => h) (Or.inr ⟨by kernel_rfl, rfl⟩) (by assumption) ?_
          try simp only [Act.put, List.getElem_toArray, List.getElem_cons_succ, List.getElem_cons_zero, List.setIfInBounds_toArray, List.set_cons_zero, List.set_cons_succ]
          refine wpAnyH_take (i := 10) (v := undef) rfl (by kernel_rfl) (by kernel_rfl) (by kernel_rfl) (fun _ _ _ h => h) (Or.inr ⟨by kernel_rfl, rfl⟩) (by assumption) ?_
          try simp only [Act.put, List.getElem_toArray, List.getElem_cons_succ, List.getElem_cons_zero, List.setIfInBounds_toArray, List.set_cons_zero, List.set_cons_succ]
          refine wpAnyH_take (i := 11) (v := undef) rfl (by kernel_rfl) (by kernel_rfl) (by kernel_rfl) (fun _ _ _ h => h) (Or.inr ⟨by kernel_rfl, rfl⟩) (by assumption) ?_
          try simp only [Act.put, List.getElem_toArray, List.getElem_cons_succ, List.getElem_cons_zero, List.setIfInBounds_toArray, List.set_cons_zero, List.set_cons_succ]
          refine wpAnyH_take (i := 12) (v := undef) rfl (by kernel_rfl) (by kernel_rfl) (by kernel_rfl) (fun _ _ _ h => h) (Or.inr ⟨by kernel_rfl, rfl⟩) (by assumption) ?_
          try simp only [Act.put, List.getElem_toArray, List.getElem_cons_succ, List.getElem_cons_zero, List.setIfInBounds_toArray, List.set_cons_zero, List.set_cons_succ]
          refine wpAnyH_take (i := 13) (v := undef) rfl (by kernel_rfl) (by kernel_rfl) (by kernel_rfl) (fun _ _ _ h => h) (Or.inr ⟨by kernel_rfl, rfl⟩) (by assumption) ?_
          try simp only [Act.put, List.getElem_toArray, List.getElem_cons_succ, List.getElem_cons_zero, List.setIfInBounds_toArray, List.set_cons_zero, List.set_cons_succ]
          refine wpAnyH_take (i := 14) (v := undef) rfl (by kernel_rfl) (by kernel_rfl) (by kernel_rfl) (fun _ _ _ h => h) (Or.inr ⟨by kernel_rfl, rfl⟩) (by assumption) ?_
          try simp only [Act.put, List.getElem_toArray, List.getElem_cons_succ, List.getElem_cons_zero, List.setIfInBounds_toArray, List.set_cons_zero, List.set_cons_succ]
          refine wpAnyH_take (i := 15) (v := undef) rfl (by kernel_rfl) (by kernel_rfl) (by kernel_rfl) (fun _ _ _ h => h) (Or.inr ⟨by kernel_rfl, rfl⟩) (by assumption) ?_
          try simp only [Act.put, List.getElem_toArray, List.getElem_cons_succ, List.getElem_cons_zero, List.setIfInBounds_toArray, List.set_cons_zero, List.set_cons_succ]
          refine wpAnyH_take (i := 16) (v := ?_) rfl (by kernel_rfl) (by kernel_rfl) (by kernel_rfl) (fun _ _ _ h => h) (Or.inl ⟨by kernel_rfl, ?_⟩) (by assumption) ?_
          rotate_left 1
          · intro w hSw; (try dsimp only at hSw); go_simp; try with_reducible rfl
          try simp only [Act.put, List.getElem_toArray, List.getElem_cons_succ, List.getElem_cons_zero, List.setIfInBounds_toArray, List.set_cons_zero, List.set_cons_succ]
          refine wpAnyH_done (by kernel_rfl) ?_ _
          obtain ⟨f2, hf2⟩ : ∃ y, rota f1 j i (i + 1) = y := ⟨_, rfl⟩
          have HR2 := Lib.hid (show Srt R f2 a (i + 1) by rw [← hf2]; exact put_down hord hj0 hji HSR.out HCR.out (Or.inl hja) HJ.out)
          have HT2 := Lib.hid (show Turned f f2 a (i + 1) n by rw [← hf2]; exact (HT.out.wide (Nat.le_refl _) (Nat.le_succ _)).trans ((rota_turned' f1 hji (Nat.le_succ _) (by omega)).wide hj0 (Nat.le_refl _)))
          have HS2 := Lib.hid (show Sl wr.drew lo hi 9 1 (some ⟨g, 0, none⟩) n c (strs (row (f2) n)) by rw [← hf2]; exact HSd.out)
          have HO2 := Lib.hid (show Only g (g + 1) w0 wr.drew from HOd.out)
          clear hf2
          go_wp2
          go_roundw
          case rel => exact ⟨i + 1, f2, by omega, by omega, by go_num, HS2.out, HT2.out, HR2.out, HO2.out⟩
          case measure => simp [intOf]; omega
        · obtain ⟨q, hq⟩ : ∃ q : Nat, (j : Int) - 1 = (q : Int) := ⟨j - 1, by omega⟩
          have hqj : q + 1 = j := by omega
          have hqw : IntKind.i64.wrap (q : Int) = q := by rw [IntKind.wrap_i64]; omega
          have hg1 : a < j := by omega
          have hx0 : (0 : Int) ≤ j := by omega
          have hx1 : (j : Int) < n := by omega
          have hy0 : (0 : Int) ≤ q := by omega
          have hy1 : (q : Int) < n := by omega
          have hne : ¬ j = q := by omega
          have hne2 : ¬ q = j := by omega
          have HVX := Lib.hid (rota_at f1 j i)
          have HVY := Lib.hid (rota_lo f1 (k := j) (m := i) (b := i + 1) (show q < j by omega))
          have HDN := Lib.hid (show swp (rota f1 j i (i + 1)) j q = rota f1 q i (i + 1) by rw [← hqj]; exact rota_down f1 (by omega))
          by_cases hc : cf (f1 i) (f1 q) < 0
          · skip
            have HSd := Lib.hid (show Sl wr.drew lo hi 9 1 (some ⟨g, 0, none⟩) n c (strs (row (rota f1 j i (i + 1)) n)) from HSL.out.keep fun _ _ _ _ => rfl)
            have HOd := Lib.hid (show Only g (g + 1) w0 wr.drew from ⟨HO.out.os, HO.out.tape, HO.out.output, HO.out.size, HO.out.block⟩)
            have cxd : wr.drew.cell? ⟨g, j, none⟩ = some (.string (f1 i)) := (HSd.out.cellAt j (by omega)).trans ((strs_row_get (by omega)).trans (by rw [HVX.out]))
            have cyd : wr.drew.cell? ⟨g, q, none⟩ = some (.string (f1 q)) := (HSd.out.cellAt q (by omega)).trans ((strs_row_get (by omega)).trans (by rw [HVY.out]))
            go_wp2_with fail
            refine wp_region_held_drew (S := (fun W => W.cell? ⟨g, j, none⟩ = some (.string (f1 i)) ∧ W.cell? ⟨g, q, none⟩ = some (.string (f1 q)))) (by kernel_rfl) ?_ (fun hHeld => ?_)
            · exact ⟨cxd, cyd⟩
            refine wpAnyH_take (i := 0) (v := ?_) rfl (by kernel_rfl) (by kernel_rfl) (by kernel_rfl) (fun _ _ _ h => h) (Or.inl ⟨by kernel_rfl, ?_⟩) (by assumption) ?_
            rotate_left 1
            · intro w hSw; (try dsimp only at hSw); go_simp; try with_reducible rfl
            try simp only [Act.put, List.getElem_toArray, List.getElem_cons_succ, List.getElem_cons_zero, List.setIfInBounds_toArray, List.set_cons_zero, List.set_cons_succ]
            refine wpAnyH_take (i := 1) (v := ?_) rfl (by kernel_rfl) (by kernel_rfl) (by kernel_rfl) (fun _ _ _ h => h) (Or.inl ⟨by kernel_rfl, ?_⟩) (by assumption) ?_
            rotate_left 1
            · intro w hSw; (try dsimp only at hSw); go_simp; try with_reducible rfl
            try simp only [Act.put, List.getElem_toArray, List.getElem_cons_succ, List.getElem_cons_zero, List.setIfInBounds_toArray, List.set_cons_zero, List.set_cons_succ]
            refine wpAnyH_take (i := 2) (v := ?_) rfl (by kernel_rfl) (by kernel_rfl) (by kernel_rfl) (fun _ _ _ h => h) (Or.inl ⟨by kernel_rfl, ?_⟩) (by assumption) ?_
            rotate_left 1
            · intro w hSw; (try dsimp only at hSw); go_simp; try with_reducible rfl
            try simp only [Act.put, List.getElem_toArray, List.getElem_cons_succ, List.getElem_cons_zero, List.setIfInBounds_toArray, List.set_cons_zero, List.set_cons_succ]
            refine wpAnyH_take (i := 3) (v := ?_) rfl (by kernel_rfl) (by kernel_rfl) (by kernel_rfl) (fun _ _ _ h => h) (Or.inl ⟨by kernel_rfl, ?_⟩) (by assumption) ?_
            rotate_left 1
            · intro w hSw; (try dsimp only at hSw); go_simp; try with_reducible rfl
            try simp only [Act.put, List.getElem_toArray, List.getElem_cons_succ, List.getElem_cons_zero, List.setIfInBounds_toArray, List.set_cons_zero, List.set_cons_succ]
            refine wpAnyH_take (i := 4) (v := ?_) rfl (by kernel_rfl) (by kernel_rfl) (by kernel_rfl) (fun _ _ _ h => h) (Or.inl ⟨by kernel_rfl, ?_⟩) (by assumption) ?_
            rotate_left 1
            · intro w hSw; (try dsimp only at hSw); go_simp; try with_reducible rfl
            try simp only [Act.put, List.getElem_toArray, List.getElem_cons_succ, List.getElem_cons_zero, List.setIfInBounds_toArray, List.set_cons_zero, List.set_cons_succ]
            refine wpAnyH_take (i := 5) (v := ?_) rfl (by kernel_rfl) (by kernel_rfl) (by kernel_rfl) (fun _ _ _ h => h) (Or.inl ⟨by kernel_rfl, ?_⟩) (by assumption) ?_
            rotate_left 1
            · intro w hSw; (try dsimp only at hSw); go_simp; try with_reducible rfl
            try simp only [Act.put, List.getElem_toArray, List.getElem_cons_succ, List.getElem_cons_zero, List.setIfInBounds_toArray, List.set_cons_zero, List.set_cons_succ]
            refine wpAnyH_take (i := 6) (v := ?_) rfl (by kernel_rfl) (by kernel_rfl) (by kernel_rfl) (fun _ _ _ h => h) (Or.inl ⟨by kernel_rfl, ?_⟩) (by assumption) ?_
            rotate_left 1
            · intro w hSw; (try dsimp only at hSw); go_simp; try with_reducible rfl
            try simp only [Act.put, List.getElem_toArray, List.getElem_cons_succ, List.getElem_cons_zero, List.setIfInBounds_toArray, List.set_cons_zero, List.set_cons_succ]
            refine wpAnyH_take (i := 7) (v := ?_) rfl (by kernel_rfl) (by kernel_rfl) (by kernel_rfl) (fun _ _ _ h => h) (Or.inl ⟨by kernel_rfl, ?_⟩) (by assumption) ?_
            rotate_left 1
            · intro w hSw; (try dsimp only at hSw); go_simp; try with_reducible rfl
            try simp only [Act.put, List.getElem_toArray, List.getElem_cons_succ, List.getElem_cons_zero, List.setIfInBounds_toArray, List.set_cons_zero, List.set_cons_succ]
            refine wpAnyH_take (i := 8) (v := ?_) rfl (by kernel_rfl) (by kernel_rfl) (by kernel_rfl) (fun _ _ _ h => h) (Or.inl ⟨by kernel_rfl, ?_⟩) (by assumption) ?_
            rotate_left 1
            · intro w hSw; (try dsimp only at hSw); (have l1 := hSw.1); (have l2 := hSw.2); go_simp; try with_reducible rfl
            try simp only [Act.put, List.getElem_toArray, List.getElem_cons_succ, List.getElem_cons_zero, List.setIfInBounds_toArray, List.set_cons_zero, List.set_cons_succ]
            refine wpAnyH_take (i := 9) (v := ?_) rfl (by kernel_rfl) (by kernel_rfl) (by kernel_rfl) (fun _ _ _ h => h) (Or.inl ⟨by kernel_rfl, ?_⟩) (by assumption) ?_
            rotate_left 1
            · intro w hSw; (try dsimp only at hSw); go_simp; try with_reducible rfl
            try simp only [Act.put, List.getElem_toArray, List.getElem_cons_succ, List.getElem_cons_zero, List.setIfInBounds_toArray, List.set_cons_zero, List.set_cons_succ]
            refine wpAnyH_take (i := 10) (v := ?_) rfl (by kernel_rfl) (by kernel_rfl) (by kernel_rfl) (fun _ _ _ h => h) (Or.inl ⟨by kernel_rfl, ?_⟩) (by assumption) ?_
            rotate_left 1
            · intro w hSw; (try dsimp only at hSw); go_simp; try with_reducible rfl
            try simp only [Act.put, List.getElem_toArray, List.getElem_cons_succ, List.getElem_cons_zero, List.setIfInBounds_toArray, List.set_cons_zero, List.set_cons_succ]
            refine wpAnyH_take (i := 11) (v := ?_) rfl (by kernel_rfl) (by kernel_rfl) (by kernel_rfl) (fun _ _ _ h => h) (Or.inl ⟨by kernel_rfl, ?_⟩) (by assumption) ?_
            rotate_left 1
            · intro w hSw; (try dsimp only at hSw); go_simp; try with_reducible rfl
            try simp only [Act.put, List.getElem_toArray, List.getElem_cons_succ, List.getElem_cons_zero, List.setIfInBounds_toArray, List.set_cons_zero, List.set_cons_succ]
            refine wpAnyH_take (i := 12) (v := ?_) rfl (by kernel_rfl) (by kernel_rfl) (by kernel_rfl) (fun _ _ _ h => h) (Or.inl ⟨by kernel_rfl, ?_⟩) (by assumption) ?_
            rotate_left 1
            · intro w hSw; (try dsimp only at hSw); go_simp; try with_reducible rfl
            try simp only [Act.put, List.getElem_toArray, List.getElem_cons_succ, List.getElem_cons_zero, List.setIfInBounds_toArray, List.set_cons_zero, List.set_cons_succ]
            refine wpAnyH_take (i := 13) (v := ?_) rfl (by kernel_rfl) (by kernel_rfl) (by kernel_rfl) (fun _ _ _ h => h) (Or.inl ⟨by kernel_rfl, ?_⟩) (by assumption) ?_
            rotate_left 1
            · intro w hSw; (try dsimp only at hSw); (have l1 := hSw.1); (have l2 := hSw.2); go_simp; try with_reducible rfl
            try simp only [Act.put, List.getElem_toArray, List.getElem_cons_succ, List.getElem_cons_zero, List.setIfInBounds_toArray, List.set_cons_zero, List.set_cons_succ]
            refine wpAnyH_ready (rs := [14]) (by kernel_rfl) (by simp) ?_
            refine AllReadyH.cons rfl (fun K hK => ?_) AllReadyH.nil
            go_simp
            refine (HC.out _ _ _ HOd.out).mono ?_
            rintro e w1 ⟨rfl, b1⟩
            have HO1 := Lib.hid (HOd.out.then b1 HOd.out.size)
            have HS1 := Lib.hid (HSd.out.on b1)
            have cx1 := cell_on b1 cxd
            have cy1 := cell_on b1 cyd
            have z1 := b1.size
            clear b1
            go_wp2_with fail
            refine hK.out _ _ ?_ (fun hNew => ?_)
            · exact ⟨cx1, cy1⟩
            clear hK K hHeld
            have hHeld := hNew
            clear hNew
            try simp only [Act.put, List.getElem_toArray, List.getElem_cons_succ, List.getElem_cons_zero, List.setIfInBounds_toArray, List.set_cons_zero, List.set_cons_succ]
            refine wpAnyH_take (i := 15) (v := ?_) rfl (by kernel_rfl) (by kernel_rfl) (by kernel_rfl) (fun _ _ _ h => h) (Or.inl ⟨by kernel_rfl, ?_⟩) (by assumption) ?_
            rotate_left 1
            · intro w hSw; (try dsimp only at hSw); go_simp; try with_reducible rfl
            try simp only [Act.put, List.getElem_toArray, List.getElem_cons_succ, List.getElem_cons_zero, List.setIfInBounds_toArray, List.set_cons_zero, List.set_cons_succ]
            refine wpAnyH_take (i := 16) (v := ?_) rfl (by kernel_rfl) (by kernel_rfl) (by kernel_rfl) (fun _ _ _ h => h) (Or.inl ⟨by kernel_rfl, ?_⟩) (by assumption) ?_
            rotate_left 1
            · intro w hSw; (try dsimp only at hSw); go_simp; try with_reducible rfl
            try simp only [Act.put, List.getElem_toArray, List.getElem_cons_succ, List.getElem_cons_zero, List.setIfInBounds_toArray, List.set_cons_zero, List.set_cons_succ]
            refine wpAnyH_done (by kernel_rfl) ?_ _
            have fx := HS1.out.frozenAt j
            have fy := HS1.out.frozenAt q
            have HSW := Lib.hid (show Sl (((w1.setCell ⟨g, j, none⟩ (.string (f1 q))).setCell ⟨g, q, none⟩ (.string (f1 i))).drew) lo hi 9 1 (some ⟨g, 0, none⟩) n c (strs (row (rota f1 q i (i + 1)) n)) from by
              have := HS1.out.swp_ (i := j) (j := q)
              rw [HVX.out, HVY.out, HDN.out] at this
              exact this)
            clear hHeld
            go_wp2_with fail
            refine wp_region_any (by kernel_rfl) ?_
            try (change wpAny _ _ _ _ _ _ _ (World.drew _))
            refine wpAny_take (i := 0) (v := ?_) rfl (by kernel_rfl) (by kernel_rfl) (by kernel_rfl) (fun _ _ _ h => h) (Or.inl ⟨by kernel_rfl, ?_⟩) ?_
            rotate_left 1
            · intro w; go_simp; try with_reducible rfl
            try simp only [Act.put, List.getElem_toArray, List.getElem_cons_succ, List.getElem_cons_zero, List.setIfInBounds_toArray, List.set_cons_zero, List.set_cons_succ]
            refine wpAny_take (i := 1) (v := ?_) rfl (by kernel_rfl) (by kernel_rfl) (by kernel_rfl) (fun _ _ _ h => h) (Or.inl ⟨by kernel_rfl, ?_⟩) ?_
            rotate_left 1
            · intro w; go_simp; try with_reducible rfl
            try simp only [Act.put, List.getElem_toArray, List.getElem_cons_succ, List.getElem_cons_zero, List.setIfInBounds_toArray, List.set_cons_zero, List.set_cons_succ]
            refine wpAny_take (i := 2) (v := ?_) rfl (by kernel_rfl) (by kernel_rfl) (by kernel_rfl) (fun _ _ _ h => h) (Or.inl ⟨by kernel_rfl, ?_⟩) ?_
            rotate_left 1
            · intro w; go_simp; try with_reducible rfl
            try simp only [Act.put, List.getElem_toArray, List.getElem_cons_succ, List.getElem_cons_zero, List.setIfInBounds_toArray, List.set_cons_zero, List.set_cons_succ]
            refine wpAny_take (i := 3) (v := ?_) rfl (by kernel_rfl) (by kernel_rfl) (by kernel_rfl) (fun _ _ _ h => h) (Or.inl ⟨by kernel_rfl, ?_⟩) ?_
            rotate_left 1
            · intro w; go_simp; try with_reducible rfl
            try simp only [Act.put, List.getElem_toArray, List.getElem_cons_succ, List.getElem_cons_zero, List.setIfInBounds_toArray, List.set_cons_zero, List.set_cons_succ]
            refine wpAny_take (i := 4) (v := ?_) rfl (by kernel_rfl) (by kernel_rfl) (by kernel_rfl) (fun _ _ _ h => h) (Or.inl ⟨by kernel_rfl, ?_⟩) ?_
            rotate_left 1
            · intro w; go_simp; try with_reducible rfl
            try simp only [Act.put, List.getElem_toArray, List.getElem_cons_succ, List.getElem_cons_zero, List.setIfInBounds_toArray, List.set_cons_zero, List.set_cons_succ]
            refine wpAny_take (i := 5) (v := ?_) rfl (by kernel_rfl) (by kernel_rfl) (by kernel_rfl) (fun _ _ _ h => h) (Or.inl ⟨by kernel_rfl, ?_⟩) ?_
            rotate_left 1
            · intro w; go_simp; try with_reducible rfl
            try simp only [Act.put, List.getElem_toArray, List.getElem_cons_succ, List.getElem_cons_zero, List.setIfInBounds_toArray, List.set_cons_zero, List.set_cons_succ]
            refine wpAny_take (i := 6) (v := ?_) rfl (by kernel_rfl) (by kernel_rfl) (by kernel_rfl) (fun _ _ _ h => h) (Or.inl ⟨by kernel_rfl, ?_⟩) ?_
            rotate_left 1
            · intro w; go_simp; try with_reducible rfl
            try simp only [Act.put, List.getElem_toArray, List.getElem_cons_succ, List.getElem_cons_zero, List.setIfInBounds_toArray, List.set_cons_zero, List.set_cons_succ]
            refine wpAny_take (i := 7) (v := ?_) rfl (by kernel_rfl) (by kernel_rfl) (by kernel_rfl) (fun _ _ _ h => h) (Or.inl ⟨by kernel_rfl, ?_⟩) ?_
            rotate_left 1
            · intro w; go_simp; try with_reducible rfl
            try simp only [Act.put, List.getElem_toArray, List.getElem_cons_succ, List.getElem_cons_zero, List.setIfInBounds_toArray, List.set_cons_zero, List.set_cons_succ]
            refine wpAny_take (i := 8) (v := ?_) rfl (by kernel_rfl) (by kernel_rfl) (by kernel_rfl) (fun _ _ _ h => h) (Or.inl ⟨by kernel_rfl, ?_⟩) ?_
            rotate_left 1
            · intro w; go_simp; try with_reducible rfl
            try simp only [Act.put, List.getElem_toArray, List.getElem_cons_succ, List.getElem_cons_zero, List.setIfInBounds_toArray, List.set_cons_zero, List.set_cons_succ]
            refine wpAny_take (i := 10) (v := ?_) rfl (by kernel_rfl) (by kernel_rfl) (by kernel_rfl) (fun _ _ _ h => h) (Or.inl ⟨by kernel_rfl, ?_⟩) ?_
            rotate_left 1
            · intro w; go_simp; try with_reducible rfl
            try simp only [Act.put, List.getElem_toArray, List.getElem_cons_succ, List.getElem_cons_zero, List.setIfInBounds_toArray, List.set_cons_zero, List.set_cons_succ]
            refine wpAny_take (i := 11) (v := ?_) rfl (by kernel_rfl) (by kernel_rfl) (by kernel_rfl) (fun _ _ _ h => h) (Or.inl ⟨by kernel_rfl, ?_⟩) ?_
            rotate_left 1
            · intro w; go_simp; try with_reducible rfl
            try simp only [Act.put, List.getElem_toArray, List.getElem_cons_succ, List.getElem_cons_zero, List.setIfInBounds_toArray, List.set_cons_zero, List.set_cons_succ]
            refine wpAny_take (i := 12) (v := ?_) rfl (by kernel_rfl) (by kernel_rfl) (by kernel_rfl) (fun _ _ _ h => h) (Or.inl ⟨by kernel_rfl, ?_⟩) ?_
            rotate_left 1
            · intro w; go_simp; try with_reducible rfl
            try simp only [Act.put, List.getElem_toArray, List.getElem_cons_succ, List.getElem_cons_zero, List.setIfInBounds_toArray, List.set_cons_zero, List.set_cons_succ]
            refine wpAny_ready (rs := [9, 13]) (by kernel_rfl) (by simp) (AllReady.cons rfl (fun K hK => ?_) (AllReady.cons rfl (fun K hK => ?_) AllReady.nil))
            · go_simp
              refine hK _ _ ?_
              clear hK K
              try simp only [Act.put, List.getElem_toArray, List.getElem_cons_succ, List.getElem_cons_zero, List.setIfInBounds_toArray, List.set_cons_zero, List.set_cons_succ]
              refine wpAny_ready (rs := [13]) (by kernel_rfl) (by simp) (AllReady.cons rfl (fun K hK => ?_) AllReady.nil)
              go_simp
              refine hK _ _ ?_
              clear hK K
              try simp only [Act.put, List.getElem_toArray, List.getElem_cons_succ, List.getElem_cons_zero, List.setIfInBounds_toArray, List.set_cons_zero, List.set_cons_succ]
              refine wpAny_take (i := 14) (v := ?_) rfl (by kernel_rfl) (by kernel_rfl) (by kernel_rfl) (fun _ _ _ h => h) (Or.inl ⟨by kernel_rfl, ?_⟩) ?_
              rotate_left 1
              · intro w; go_simp; try with_reducible rfl
              try simp only [Act.put, List.getElem_toArray, List.getElem_cons_succ, List.getElem_cons_zero, List.setIfInBounds_toArray, List.set_cons_zero, List.set_cons_succ]
              refine wpAny_ready (rs := [15]) (by kernel_rfl) (by simp) (AllReady.cons rfl (fun K hK => ?_) AllReady.nil)
              go_simp
              refine hK _ _ ?_
              clear hK K
              try simp only [Act.put, List.getElem_toArray, List.getElem_cons_succ, List.getElem_cons_zero, List.setIfInBounds_toArray, List.set_cons_zero, List.set_cons_succ]
              refine wpAny_take (i := 16) (v := ?_) rfl (by kernel_rfl) (by kernel_rfl) (by kernel_rfl) (fun _ _ _ h => h) (Or.inl ⟨by kernel_rfl, ?_⟩) ?_
              rotate_left 1
              · intro w; go_simp; try with_reducible rfl
              try simp only [Act.put, List.getElem_toArray, List.getElem_cons_succ, List.getElem_cons_zero, List.setIfInBounds_toArray, List.set_cons_zero, List.set_cons_succ]
              refine wpAny_ready (rs := [17]) (by kernel_rfl) (by simp) (AllReady.cons rfl (fun K hK => ?_) AllReady.nil)
              go_simp
              refine hK _ _ ?_
              clear hK K
              try simp only [Act.put, List.getElem_toArray, List.getElem_cons_succ, List.getElem_cons_zero, List.setIfInBounds_toArray, List.set_cons_zero, List.set_cons_succ]
              refine wpAny_done (by kernel_rfl) ?_ _
              go_wp2
              go_roundw
              case rel => exact ⟨q, by omega, by omega, rfl, HSW.out, Or.inr (lt_yes hc), HO1.out.swp_ _ _ _ _⟩
              case measure => simp [intOf]; omega
            · go_simp
              refine hK _ _ ?_
              clear hK K
              try simp only [Act.put, List.getElem_toArray, List.getElem_cons_succ, List.getElem_cons_zero, List.setIfInBounds_toArray, List.set_cons_zero, List.set_cons_succ]
              refine wpAny_ready (rs := [9]) (by kernel_rfl) (by simp) (AllReady.cons rfl (fun K hK => ?_) AllReady.nil)
              go_simp
              refine hK _ _ ?_
              clear hK K
              try simp only [Act.put, List.getElem_toArray, List.getElem_cons_succ, List.getElem_cons_zero, List.setIfInBounds_toArray, List.set_cons_zero, List.set_cons_succ]
              refine wpAny_take (i := 14) (v := ?_) rfl (by kernel_rfl) (by kernel_rfl) (by kernel_rfl) (fun _ _ _ h => h) (Or.inl ⟨by kernel_rfl, ?_⟩) ?_
              rotate_left 1
              · intro w; go_simp; try with_reducible rfl
              try simp only [Act.put, List.getElem_toArray, List.getElem_cons_succ, List.getElem_cons_zero, List.setIfInBounds_toArray, List.set_cons_zero, List.set_cons_succ]
              refine wpAny_ready (rs := [15]) (by kernel_rfl) (by simp) (AllReady.cons rfl (fun K hK => ?_) AllReady.nil)
              go_simp
              refine hK _ _ ?_
              clear hK K
              try simp only [Act.put, List.getElem_toArray, List.getElem_cons_succ, List.getElem_cons_zero, List.setIfInBounds_toArray, List.set_cons_zero, List.set_cons_succ]
              refine wpAny_take (i := 16) (v := ?_) rfl (by kernel_rfl) (by kernel_rfl) (by kernel_rfl) (fun _ _ _ h => h) (Or.inl ⟨by kernel_rfl, ?_⟩) ?_
              rotate_left 1
              · intro w; go_simp; try with_reducible rfl
              try simp only [Act.put, List.getElem_toArray, List.getElem_cons_succ, List.getElem_cons_zero, List.setIfInBounds_toArray, List.set_cons_zero, List.set_cons_succ]
              refine wpAny_ready (rs := [17]) (by kernel_rfl) (by simp) (AllReady.cons rfl (fun K hK => ?_) AllReady.nil)
              go_simp
              refine hK _ _ ?_
              clear hK K
              try simp only [Act.put, List.getElem_toArray, List.getElem_cons_succ, List.getElem_cons_zero, List.setIfInBounds_toArray, List.set_cons_zero, List.set_cons_succ]
              refine wpAny_done (by kernel_rfl) ?_ _
              go_wp2
              go_roundw
              case rel => exact ⟨q, by omega, by omega, rfl, HSW.out, Or.inr (lt_yes hc), HO1.out.swp_ _ _ _ _⟩
              case measure => simp [intOf]; omega
          · have hc1 : decide (cf (f1 i) (f1 q) < 0) = false := decide_eq_false hc
            have HSd := Lib.hid (show Sl wr.drew lo hi 9 1 (some ⟨g, 0, none⟩) n c (strs (row (rota f1 j i (i + 1)) n)) from HSL.out.keep fun _ _ _ _ => rfl)
            have HOd := Lib.hid (show Only g (g + 1) w0 wr.drew from ⟨HO.out.os, HO.out.tape, HO.out.output, HO.out.size, HO.out.block⟩)
            have cxd : wr.drew.cell? ⟨g, j, none⟩ = some (.string (f1 i)) := (HSd.out.cellAt j (by omega)).trans ((strs_row_get (by omega)).trans (by rw [HVX.out]))
            have cyd : wr.drew.cell? ⟨g, q, none⟩ = some (.string (f1 q)) := (HSd.out.cellAt q (by omega)).trans ((strs_row_get (by omega)).trans (by rw [HVY.out]))
            go_wp2_with fail
            refine wp_region_held_drew (S := (fun W => W.cell? ⟨g, j, none⟩ = some (.string (f1 i)) ∧ W.cell? ⟨g, q, none⟩ = some (.string (f1 q)))) (by kernel_rfl) ?_ (fun hHeld => ?_)
            · exact ⟨cxd, cyd⟩
            refine wpAnyH_take (i := 0) (v := ?_) rfl (by kernel_rfl) (by kernel_rfl) (by kernel_rfl) (fun _ _ _ h => h) (Or.inl ⟨by kernel_rfl, ?_⟩) (by assumption) ?_
            rotate_left 1
            · intro w hSw; (try dsimp only at hSw); go_simp; try with_reducible rfl
            try simp only [Act.put, List.getElem_toArray, List.getElem_cons_succ, List.getElem_cons_zero, List.setIfInBounds_toArray, List.set_cons_zero, List.set_cons_succ]
            refine wpAnyH_take (i := 1) (v := ?_) rfl (by kernel_rfl) (by kernel_rfl) (by kernel_rfl) (fun _ _ _ h => h) (Or.inl ⟨by kernel_rfl, ?_⟩) (by assumption) ?_
            rotate_left 1
            · intro w hSw; (try dsimp only at hSw); go_simp; try with_reducible rfl
            try simp only [Act.put, List.getElem_toArray, List.getElem_cons_succ, List.getElem_cons_zero, List.setIfInBounds_toArray, List.set_cons_zero, List.set_cons_succ]
            refine wpAnyH_take (i := 2) (v := ?_) rfl (by kernel_rfl) (by kernel_rfl) (by kernel_rfl) (fun _ _ _ h => h) (Or.inl ⟨by kernel_rfl, ?_⟩) (by assumption) ?_
            rotate_left 1
            · intro w hSw; (try dsimp only at hSw); go_simp; try with_reducible rfl
            try simp only [Act.put, List.getElem_toArray, List.getElem_cons_succ, List.getElem_cons_zero, List.setIfInBounds_toArray, List.set_cons_zero, List.set_cons_succ]
            refine wpAnyH_take (i := 3) (v := ?_) rfl (by kernel_rfl) (by kernel_rfl) (by kernel_rfl) (fun _ _ _ h => h) (Or.inl ⟨by kernel_rfl, ?_⟩) (by assumption) ?_
            rotate_left 1
            · intro w hSw; (try dsimp only at hSw); go_simp; try with_reducible rfl
            try simp only [Act.put, List.getElem_toArray, List.getElem_cons_succ, List.getElem_cons_zero, List.setIfInBounds_toArray, List.set_cons_zero, List.set_cons_succ]
            refine wpAnyH_take (i := 4) (v := ?_) rfl (by kernel_rfl) (by kernel_rfl) (by kernel_rfl) (fun _ _ _ h => h) (Or.inl ⟨by kernel_rfl, ?_⟩) (by assumption) ?_
            rotate_left 1
            · intro w hSw; (try dsimp only at hSw); go_simp; try with_reducible rfl
            try simp only [Act.put, List.getElem_toArray, List.getElem_cons_succ, List.getElem_cons_zero, List.setIfInBounds_toArray, List.set_cons_zero, List.set_cons_succ]
            refine wpAnyH_take (i := 5) (v := ?_) rfl (by kernel_rfl) (by kernel_rfl) (by kernel_rfl) (fun _ _ _ h => h) (Or.inl ⟨by kernel_rfl, ?_⟩) (by assumption) ?_
            rotate_left 1
            · intro w hSw; (try dsimp only at hSw); go_simp; try with_reducible rfl
            try simp only [Act.put, List.getElem_toArray, List.getElem_cons_succ, List.getElem_cons_zero, List.setIfInBounds_toArray, List.set_cons_zero, List.set_cons_succ]
            refine wpAnyH_take (i := 6) (v := ?_) rfl (by kernel_rfl) (by kernel_rfl) (by kernel_rfl) (fun _ _ _ h => h) (Or.inl ⟨by kernel_rfl, ?_⟩) (by assumption) ?_
            rotate_left 1
            · intro w hSw; (try dsimp only at hSw); go_simp; try with_reducible rfl
            try simp only [Act.put, List.getElem_toArray, List.getElem_cons_succ, List.getElem_cons_zero, List.setIfInBounds_toArray, List.set_cons_zero, List.set_cons_succ]
            refine wpAnyH_take (i := 7) (v := ?_) rfl (by kernel_rfl) (by kernel_rfl) (by kernel_rfl) (fun _ _ _ h => h) (Or.inl ⟨by kernel_rfl, ?_⟩) (by assumption) ?_
            rotate_left 1
            · intro w hSw; (try dsimp only at hSw); go_simp; try with_reducible rfl
            try simp only [Act.put, List.getElem_toArray, List.getElem_cons_succ, List.getElem_cons_zero, List.setIfInBounds_toArray, List.set_cons_zero, List.set_cons_succ]
            refine wpAnyH_take (i := 8) (v := ?_) rfl (by kernel_rfl) (by kernel_rfl) (by kernel_rfl) (fun _ _ _ h => h) (Or.inl ⟨by kernel_rfl, ?_⟩) (by assumption) ?_
            rotate_left 1
            · intro w hSw; (try dsimp only at hSw); (have l1 := hSw.1); (have l2 := hSw.2); go_simp; try with_reducible rfl
            try simp only [Act.put, List.getElem_toArray, List.getElem_cons_succ, List.getElem_cons_zero, List.setIfInBounds_toArray, List.set_cons_zero, List.set_cons_succ]
            refine wpAnyH_take (i := 9) (v := ?_) rfl (by kernel_rfl) (by kernel_rfl) (by kernel_rfl) (fun _ _ _ h => h) (Or.inl ⟨by kernel_rfl, ?_⟩) (by assumption) ?_
            rotate_left 1
            · intro w hSw; (try dsimp only at hSw); go_simp; try with_reducible rfl
            try simp only [Act.put, List.getElem_toArray, List.getElem_cons_succ, List.getElem_cons_zero, List.setIfInBounds_toArray, List.set_cons_zero, List.set_cons_succ]
            refine wpAnyH_take (i := 10) (v := ?_) rfl (by kernel_rfl) (by kernel_rfl) (by kernel_rfl) (fun _ _ _ h => h) (Or.inl ⟨by kernel_rfl, ?_⟩) (by assumption) ?_
            rotate_left 1
            · intro w hSw; (try dsimp only at hSw); go_simp; try with_reducible rfl
            try simp only [Act.put, List.getElem_toArray, List.getElem_cons_succ, List.getElem_cons_zero, List.setIfInBounds_toArray, List.set_cons_zero, List.set_cons_succ]
            refine wpAnyH_take (i := 11) (v := ?_) rfl (by kernel_rfl) (by kernel_rfl) (by kernel_rfl) (fun _ _ _ h => h) (Or.inl ⟨by kernel_rfl, ?_⟩) (by assumption) ?_
            rotate_left 1
            · intro w hSw; (try dsimp only at hSw); go_simp; try with_reducible rfl
            try simp only [Act.put, List.getElem_toArray, List.getElem_cons_succ, List.getElem_cons_zero, List.setIfInBounds_toArray, List.set_cons_zero, List.set_cons_succ]
            refine wpAnyH_take (i := 12) (v := ?_) rfl (by kernel_rfl) (by kernel_rfl) (by kernel_rfl) (fun _ _ _ h => h) (Or.inl ⟨by kernel_rfl, ?_⟩) (by assumption) ?_
            rotate_left 1
            · intro w hSw; (try dsimp only at hSw); go_simp; try with_reducible rfl
            try simp only [Act.put, List.getElem_toArray, List.getElem_cons_succ, List.getElem_cons_zero, List.setIfInBounds_toArray, List.set_cons_zero, List.set_cons_succ]
            refine wpAnyH_take (i := 13) (v := ?_) rfl (by kernel_rfl) (by kernel_rfl) (by kernel_rfl) (fun _ _ _ h => h) (Or.inl ⟨by kernel_rfl, ?_⟩) (by assumption) ?_
            rotate_left 1
            · intro w hSw; (try dsimp only at hSw); (have l1 := hSw.1); (have l2 := hSw.2); go_simp; try with_reducible rfl
            try simp only [Act.put, List.getElem_toArray, List.getElem_cons_succ, List.getElem_cons_zero, List.setIfInBounds_toArray, List.set_cons_zero, List.set_cons_succ]
            refine wpAnyH_ready (rs := [14]) (by kernel_rfl) (by simp) ?_
            refine AllReadyH.cons rfl (fun K hK => ?_) AllReadyH.nil
            go_simp
            refine (HC.out _ _ _ HOd.out).mono ?_
            rintro e w1 ⟨rfl, b1⟩
            have HO1 := Lib.hid (HOd.out.then b1 HOd.out.size)
            have HS1 := Lib.hid (HSd.out.on b1)
            have cx1 := cell_on b1 cxd
            have cy1 := cell_on b1 cyd
            have z1 := b1.size
            clear b1
            go_wp2_with fail
            refine hK.out _ _ ?_ (fun hNew => ?_)
            · exact ⟨cx1, cy1⟩
            clear hK K hHeld
            have hHeld := hNew
            clear hNew
            try simp only [Act.put, List.getElem_toArray, List.getElem_cons_succ, List.getElem_cons_zero, List.setIfInBounds_toArray, List.set_cons_zero, List.set_cons_succ]
            refine wpAnyH_take (i := 15) (v := ?_) rfl (by kernel_rfl) (by kernel_rfl) (by kernel_rfl) (fun _ _ _ h => h) (Or.inl ⟨by kernel_rfl, ?_⟩) (by assumption) ?_
            rotate_left 1
            · intro w hSw; (try dsimp only at hSw); go_simp; try with_reducible rfl
            try simp only [Act.put, List.getElem_toArray, List.getElem_cons_succ, List.getElem_cons_zero, List.setIfInBounds_toArray, List.set_cons_zero, List.set_cons_succ]
            refine wpAnyH_take (i := 16) (v := ?_) rfl (by kernel_rfl) (by kernel_rfl) (by kernel_rfl) (fun _ _ _ h => h) (Or.inl ⟨by kernel_rfl, ?_⟩) (by assumption) ?_
            rotate_left 1
            · intro w hSw; (try dsimp only at hSw); go_simp; try with_reducible rfl
            try simp only [Act.put, List.getElem_toArray, List.getElem_cons_succ, List.getElem_cons_zero, List.setIfInBounds_toArray, List.set_cons_zero, List.set_cons_succ]
            refine wpAnyH_done (by kernel_rfl) ?_ _
            obtain ⟨f2, hf2⟩ : ∃ y, rota f1 j i (i + 1) = y := ⟨_, rfl⟩
            have HR2 := Lib.hid (show Srt R f2 a (i + 1) by rw [← hf2]; exact put_down hord hj0 hji HSR.out HCR.out (Or.inr (by rw [show j - 1 = q by omega]; exact lt_no (by omega))) HJ.out)
            have HT2 := Lib.hid (show Turned f f2 a (i + 1) n by rw [← hf2]; exact (HT.out.wide (Nat.le_refl _) (Nat.le_succ _)).trans ((rota_turned' f1 hji (Nat.le_succ _) (by omega)).wide hj0 (Nat.le_refl _)))
            have HS2 := Lib.hid (show Sl w1 lo hi 9 1 (some ⟨g, 0, none⟩) n c (strs (row (f2) n)) by rw [← hf2]; exact HS1.out)
            have HO2 := Lib.hid (show Only g (g + 1) w0 w1 from HO1.out)
            clear hf2
            go_wp2
            go_roundw
            case rel => exact ⟨i + 1, f2, by omega, by omega, by go_num, HS2.out, HT2.out, HR2.out, HO2.out⟩
            case measure => simp [intOf]; omega
    · go_wp2
      go_end0
      by_cases hib : i ≤ b
      · obtain rfl : i = b := by omega
        exact ⟨rfl, f1, HSL0.out, HT.out, HSR.out, HO0'.out⟩
      · obtain rfl : i = a + 1 := by omega
        have e := HT.out.one
        exact ⟨rfl, f1, HSL0.out, by rw [e]; exact Turned.refl _ _ _ _, HSR.out.sub (Nat.le_refl _) (by omega), HO0'.out⟩

end Go.Proofs.YtjmlcobbjpmjpaaGreatDoor
namespace Go.Proofs.YtjmlcobbjpmjpaaGreatDoor
open Go.RowKit Stb

theorem rota_out {f : Nat → ByteArray} {a m b x : Nat} (h : b ≤ x) (h1 : a ≤ m) (h2 : m ≤ b) : rota f a m b x = f x := by
  rcases rota_hi f h h2 with e | e
  · exact e
  · omega

set_option maxHeartbeats 4000000 in
set_option maxRecDepth 100000 in
theorem symMerge_left (g n c lo hi g2 g3 : Nat) (cf : ByteArray → ByteArray → Int) (R S : ByteArray → ByteArray → Prop) (w0 : World) (hn : n ≤ 1000000000) (hc : CmpAt w0 g g2 g3 cf) (hord : Ord3 (fun x y => decide (cf x y < 0)) R S) (a m b : Nat) (f : Nat → ByteArray) (w : World) (ham : a < m) (hmb : m < b) (hb : b ≤ n) (h : Sl w lo hi 9 1 (some ⟨g, 0, none⟩) n c (strs (row (f) n))) (ho : Only g (g + 1) w0 w) (hs1 : Srt R f a m) (hs2 : Srt R f m b) (hcr : Crs S f a m b) (h1 : m - a = 1) :
    Calls Tryz.prog 181 #[.slice (some ⟨g, 0, none⟩) n c, .int .i64 (a : Int), .int .i64 (m : Int), .int .i64 (b : Int), .func (.func 78) #[] #[.pointer (some ⟨g2, 0, none⟩), .pointer (some ⟨g3, 0, none⟩)]] w fun e w' => e = .returned (.tuple #[]) ∧ ∃ f' : Nat → ByteArray, Sl w' lo hi 9 1 (some ⟨g, 0, none⟩) n c (strs (row (f') n)) ∧ Turned f f' a b n ∧ Srt R f' a b ∧ Only g (g + 1) w0 w' := by
  have HC := Lib.hid hc
  clear hc
  have HH := Lib.hid h
  have HO0 := Lib.hid ho
  have HS1f := Lib.hid hs1
  have HS2 := Lib.hid hs2
  have HCR := Lib.hid hcr
  clear h ho hs1 hs2 hcr
  go_enter Tryz.func181, Tryz.ntmps181
  have HS2 := Lib.hid (show Srt R f (a + 1) b by rw [show a + 1 = m by omega]; exact HS2.out)
  have HCR := Lib.hid (show Crs S f a (a + 1) b by rw [show a + 1 = m by omega]; exact HCR.out)
  have hd1 : (m : Int) - (a : Int) = 1 := by omega
  have HME := Lib.hid (show m = a + 1 by omega)
  clear h1
  go_wp2
  go_loopw [10, 11] (fun p q wr => ∃ i j : Nat, m ≤ i ∧ i ≤ j ∧ j ≤ b ∧ p = .int .i64 (i : Int) ∧ q = .int .i64 (j : Int) ∧ Sl wr lo hi 9 1 (some ⟨g, 0, none⟩) n c (strs (row (f) n)) ∧ (i = m ∨ (fun x y => decide (cf x y < 0)) (f (i - 1)) (f a) = true) ∧ (j = b ∨ (fun x y => decide (cf x y < 0)) (f j) (f a) = false) ∧ Only g (g + 1) w0 wr) (fun p q _ => (intOf q - intOf p).toNat)
  case atStart => exact ⟨m, b, Nat.le_refl _, by omega, Nat.le_refl _, rfl, rfl, HH.out, Or.inl rfl, Or.inl rfl, HO0.out⟩
  case round =>
    obtain ⟨i, j, hmi, hij, hjb, rfl, rfl, hsl, hil, hjl, ho⟩ := hrel
    have HSL := Lib.hid hsl
    have HO := Lib.hid ho
    have HI := Lib.hid hil
    have HJ := Lib.hid hjl
    clear hsl ho hil hjl HH HO0 hd1
    by_cases hlt : i < j
    · obtain ⟨k, hk⟩ : ∃ k : Nat, ((i : Int) + (j : Int)) / 2 = (k : Int) := ⟨(i + j) / 2, by omega⟩
      have hk1 : i ≤ k := by omega
      have hk2 : k < j := by omega
      have hx0 : (0 : Int) ≤ k := by omega
      have hx1 : (k : Int) < n := by omega
      have hy0 : (0 : Int) ≤ a := by omega
      have hy1 : (a : Int) < n := by omega
      have HVX := Lib.hid (show f k = f k from rfl)
      have HVY := Lib.hid (show f a = f a from rfl)
      by_cases hc : cf (f k) (f a) < 0
      · skip
        have HSd := Lib.hid (show Sl wr.drew lo hi 9 1 (some ⟨g, 0, none⟩) n c (strs (row (f) n)) from HSL.out.keep fun _ _ _ _ => rfl)
        have HOd := Lib.hid (show Only g (g + 1) w0 wr.drew from ⟨HO.out.os, HO.out.tape, HO.out.output, HO.out.size, HO.out.block⟩)
        have cxd : wr.drew.cell? ⟨g, k, none⟩ = some (.string (f k)) := (HSd.out.cellAt k (by omega)).trans ((strs_row_get (by omega)).trans (by rw [HVX.out]))
        have cyd : wr.drew.cell? ⟨g, a, none⟩ = some (.string (f a)) := (HSd.out.cellAt a (by omega)).trans ((strs_row_get (by omega)).trans (by rw [HVY.out]))
        go_wp2_with fail
        refine wp_region_held_drew (S := (fun W => W.cell? ⟨g, k, none⟩ = some (.string (f k)) ∧ W.cell? ⟨g, a, none⟩ = some (.string (f a)))) (by kernel_rfl) ?_ (fun hHeld => ?_)
        · exact ⟨cxd, cyd⟩
        refine wpAnyH_take (i := 0) (v := ?_) rfl (by kernel_rfl) (by kernel_rfl) (by kernel_rfl) (fun _ _ _ h => h) (Or.inl ⟨by kernel_rfl, ?_⟩) (by assumption) ?_
        rotate_left 1
        · intro w hSw; (try dsimp only at hSw); go_simp; try with_reducible rfl
        try simp only [Act.put, List.getElem_toArray, List.getElem_cons_succ, List.getElem_cons_zero, List.setIfInBounds_toArray, List.set_cons_zero, List.set_cons_succ]
        refine wpAnyH_take (i := 1) (v := ?_) rfl (by kernel_rfl) (by kernel_rfl) (by kernel_rfl) (fun _ _ _ h => h) (Or.inl ⟨by kernel_rfl, ?_⟩) (by assumption) ?_
        rotate_left 1
        · intro w hSw; (try dsimp only at hSw); go_simp; try with_reducible rfl
        try simp only [Act.put, List.getElem_toArray, List.getElem_cons_succ, List.getElem_cons_zero, List.setIfInBounds_toArray, List.set_cons_zero, List.set_cons_succ]
        refine wpAnyH_take (i := 2) (v := ?_) rfl (by kernel_rfl) (by kernel_rfl) (by kernel_rfl) (fun _ _ _ h => h) (Or.inl ⟨by kernel_rfl, ?_⟩) (by assumption) ?_
        rotate_left 1
        · intro w hSw; (try dsimp only at hSw); go_simp; try with_reducible rfl
        try simp only [Act.put, List.getElem_toArray, List.getElem_cons_succ, List.getElem_cons_zero, List.setIfInBounds_toArray, List.set_cons_zero, List.set_cons_succ]
        refine wpAnyH_take (i := 3) (v := ?_) rfl (by kernel_rfl) (by kernel_rfl) (by kernel_rfl) (fun _ _ _ h => h) (Or.inl ⟨by kernel_rfl, ?_⟩) (by assumption) ?_
        rotate_left 1
        · intro w hSw; (try dsimp only at hSw); go_simp; try with_reducible rfl
        try simp only [Act.put, List.getElem_toArray, List.getElem_cons_succ, List.getElem_cons_zero, List.setIfInBounds_toArray, List.set_cons_zero, List.set_cons_succ]
        refine wpAnyH_take (i := 4) (v := ?_) rfl (by kernel_rfl) (by kernel_rfl) (by kernel_rfl) (fun _ _ _ h => h) (Or.inl ⟨by kernel_rfl, ?_⟩) (by assumption) ?_
        rotate_left 1
        · intro w hSw; (try dsimp only at hSw); (have l1 := hSw.1); (have l2 := hSw.2); go_simp; try with_reducible rfl
        try simp only [Act.put, List.getElem_toArray, List.getElem_cons_succ, List.getElem_cons_zero, List.setIfInBounds_toArray, List.set_cons_zero, List.set_cons_succ]
        refine wpAnyH_take (i := 5) (v := ?_) rfl (by kernel_rfl) (by kernel_rfl) (by kernel_rfl) (fun _ _ _ h => h) (Or.inl ⟨by kernel_rfl, ?_⟩) (by assumption) ?_
        rotate_left 1
        · intro w hSw; (try dsimp only at hSw); go_simp; try with_reducible rfl
        try simp only [Act.put, List.getElem_toArray, List.getElem_cons_succ, List.getElem_cons_zero, List.setIfInBounds_toArray, List.set_cons_zero, List.set_cons_succ]
        refine wpAnyH_take (i := 6) (v := ?_) rfl (by kernel_rfl) (by kernel_rfl) (by kernel_rfl) (fun _ _ _ h => h) (Or.inl ⟨by kernel_rfl, ?_⟩) (by assumption) ?_
        rotate_left 1
        · intro w hSw; (try dsimp only at hSw); go_simp; try with_reducible rfl
        try simp only [Act.put, List.getElem_toArray, List.getElem_cons_succ, List.getElem_cons_zero, List.setIfInBounds_toArray, List.set_cons_zero, List.set_cons_succ]
        refine wpAnyH_take (i := 7) (v := ?_) rfl (by kernel_rfl) (by kernel_rfl) (by kernel_rfl) (fun _ _ _ h => h) (Or.inl ⟨by kernel_rfl, ?_⟩) (by assumption) ?_
        rotate_left 1
        · intro w hSw; (try dsimp only at hSw); go_simp; try with_reducible rfl
        try simp only [Act.put, List.getElem_toArray, List.getElem_cons_succ, List.getElem_cons_zero, List.setIfInBounds_toArray, List.set_cons_zero, List.set_cons_succ]
        refine wpAnyH_take (i := 8) (v := ?_) rfl (by kernel_rfl) (by kernel_rfl) (by kernel_rfl) (fun _ _ _ h => h) (Or.inl ⟨by kernel_rfl, ?_⟩) (by assumption) ?_
        rotate_left 1
        · intro w hSw; (try dsimp only at hSw); (have l1 := hSw.1); (have l2 := hSw.2); go_simp; try with_reducible rfl
        try simp only [Act.put, List.getElem_toArray, List.getElem_cons_succ, List.getElem_cons_zero, List.setIfInBounds_toArray, List.set_cons_zero, List.set_cons_succ]
        refine wpAnyH_ready (rs := [9]) (by kernel_rfl) (by simp) ?_
        refine AllReadyH.cons rfl (fun K hK => ?_) AllReadyH.nil
        go_simp
        refine (HC.out _ _ _ HOd.out).mono ?_
        rintro e w1 ⟨rfl, b1⟩
        have HO1 := Lib.hid (HOd.out.then b1 HOd.out.size)
        have HS1 := Lib.hid (HSd.out.on b1)
        have cx1 := cell_on b1 cxd
        have cy1 := cell_on b1 cyd
        have z1 := b1.size
        clear b1
        go_wp2_with fail
        refine hK.out _ _ ?_ (fun hNew => ?_)
        · exact ⟨cx1, cy1⟩
        clear hK K hHeld
        have hHeld := hNew
        clear hNew
        try simp only [Act.put, List.getElem_toArray, List.getElem_cons_succ, List.getElem_cons_zero, List.setIfInBounds_toArray, List.set_cons_zero, List.set_cons_succ]
        refine wpAnyH_take (i := 10) (v := ?_) rfl (by kernel_rfl) (by kernel_rfl) (by kernel_rfl) (fun _ _ _ h => h) (Or.inl ⟨by kernel_rfl, ?_⟩) (by assumption) ?_
        rotate_left 1
        · intro w hSw; (try dsimp only at hSw); go_simp; try with_reducible rfl
        try simp only [Act.put, List.getElem_toArray, List.getElem_cons_succ, List.getElem_cons_zero, List.setIfInBounds_toArray, List.set_cons_zero, List.set_cons_succ]
        refine wpAnyH_done (by kernel_rfl) ?_ _
        go_wp2
        go_roundw
        case rel => exact ⟨k + 1, j, by omega, by omega, by omega, (by first | rfl | go_num | (congr 1; omega)), rfl, HS1.out, Or.inr (by rw [Nat.add_sub_cancel]; exact lt_yes hc), HJ.out, HO1.out⟩
        case measure => simp [intOf]; omega
      · have hc1 : decide (cf (f k) (f a) < 0) = false := decide_eq_false hc
        have HSd := Lib.hid (show Sl wr.drew lo hi 9 1 (some ⟨g, 0, none⟩) n c (strs (row (f) n)) from HSL.out.keep fun _ _ _ _ => rfl)
        have HOd := Lib.hid (show Only g (g + 1) w0 wr.drew from ⟨HO.out.os, HO.out.tape, HO.out.output, HO.out.size, HO.out.block⟩)
        have cxd : wr.drew.cell? ⟨g, k, none⟩ = some (.string (f k)) := (HSd.out.cellAt k (by omega)).trans ((strs_row_get (by omega)).trans (by rw [HVX.out]))
        have cyd : wr.drew.cell? ⟨g, a, none⟩ = some (.string (f a)) := (HSd.out.cellAt a (by omega)).trans ((strs_row_get (by omega)).trans (by rw [HVY.out]))
        go_wp2_with fail
        refine wp_region_held_drew (S := (fun W => W.cell? ⟨g, k, none⟩ = some (.string (f k)) ∧ W.cell? ⟨g, a, none⟩ = some (.string (f a)))) (by kernel_rfl) ?_ (fun hHeld => ?_)
        · exact ⟨cxd, cyd⟩
        refine wpAnyH_take (i := 0) (v := ?_) rfl (by kernel_rfl) (by kernel_rfl) (by kernel_rfl) (fun _ _ _ h => h) (Or.inl ⟨by kernel_rfl, ?_⟩) (by assumption) ?_
        rotate_left 1
        · intro w hSw; (try dsimp only at hSw); go_simp; try with_reducible rfl
        try simp only [Act.put, List.getElem_toArray, List.getElem_cons_succ, List.getElem_cons_zero, List.setIfInBounds_toArray, List.set_cons_zero, List.set_cons_succ]
        refine wpAnyH_take (i := 1) (v := ?_) rfl (by kernel_rfl) (by kernel_rfl) (by kernel_rfl) (fun _ _ _ h => h) (Or.inl ⟨by kernel_rfl, ?_⟩) (by assumption) ?_
        rotate_left 1
        · intro w hSw; (try dsimp only at hSw); go_simp; try with_reducible rfl
        try simp only [Act.put, List.getElem_toArray, List.getElem_cons_succ, List.getElem_cons_zero, List.setIfInBounds_toArray, List.set_cons_zero, List.set_cons_succ]
        refine wpAnyH_take (i := 2) (v := ?_) rfl (by kernel_rfl) (by kernel_rfl) (by kernel_rfl) (fun _ _ _ h => h) (Or.inl ⟨by kernel_rfl, ?_⟩) (by assumption) ?_
        rotate_left 1
        · intro w hSw; (try dsimp only at hSw); go_simp; try with_reducible rfl
        try simp only [Act.put, List.getElem_toArray, List.getElem_cons_succ, List.getElem_cons_zero, List.setIfInBounds_toArray, List.set_cons_zero, List.set_cons_succ]
        refine wpAnyH_take (i := 3) (v := ?_) rfl (by kernel_rfl) (by kernel_rfl) (by kernel_rfl) (fun _ _ _ h => h) (Or.inl ⟨by kernel_rfl, ?_⟩) (by assumption) ?_
        rotate_left 1
        · intro w hSw; (try dsimp only at hSw); go_simp; try with_reducible rfl
        try simp only [Act.put, List.getElem_toArray, List.getElem_cons_succ, List.getElem_cons_zero, List.setIfInBounds_toArray, List.set_cons_zero, List.set_cons_succ]
        refine wpAnyH_take (i := 4) (v := ?_) rfl (by kernel_rfl) (by kernel_rfl) (by kernel_rfl) (fun _ _ _ h => h) (Or.inl ⟨by kernel_rfl, ?_⟩) (by assumption) ?_
        rotate_left 1
        · intro w hSw; (try dsimp only at hSw); (have l1 := hSw.1); (have l2 := hSw.2); go_simp; try with_reducible rfl
        try simp only [Act.put, List.getElem_toArray, List.getElem_cons_succ, List.getElem_cons_zero, List.setIfInBounds_toArray, List.set_cons_zero, List.set_cons_succ]
        refine wpAnyH_take (i := 5) (v := ?_) rfl (by kernel_rfl) (by kernel_rfl) (by kernel_rfl) (fun _ _ _ h => h) (Or.inl ⟨by kernel_rfl, ?_⟩) (by assumption) ?_
        rotate_left 1
        · intro w hSw; (try dsimp only at hSw); go_simp; try with_reducible rfl
        try simp only [Act.put, List.getElem_toArray, List.getElem_cons_succ, List.getElem_cons_zero, List.setIfInBounds_toArray, List.set_cons_zero, List.set_cons_succ]
        refine wpAnyH_take (i := 6) (v := ?_) rfl (by kernel_rfl) (by kernel_rfl) (by kernel_rfl) (fun _ _ _ h => h) (Or.inl ⟨by kernel_rfl, ?_⟩) (by assumption) ?_
        rotate_left 1
        · intro w hSw; (try dsimp only at hSw); go_simp; try with_reducible rfl
        try simp only [Act.put, List.getElem_toArray, List.getElem_cons_succ, List.getElem_cons_zero, List.setIfInBounds_toArray, List.set_cons_zero, List.set_cons_succ]
        refine wpAnyH_take (i := 7) (v := ?_) rfl (by kernel_rfl) (by kernel_rfl) (by kernel_rfl) (fun _ _ _ h => h) (Or.inl ⟨by kernel_rfl, ?_⟩) (by assumption) ?_
        rotate_left 1
        · intro w hSw; (try dsimp only at hSw); go_simp; try with_reducible rfl
        try simp only [Act.put, List.getElem_toArray, List.getElem_cons_succ, List.getElem_cons_zero, List.setIfInBounds_toArray, List.set_cons_zero, List.set_cons_succ]
        refine wpAnyH_take (i := 8) (v := ?_) rfl (by kernel_rfl) (by kernel_rfl) (by kernel_rfl) (fun _ _ _ h => h) (Or.inl ⟨by kernel_rfl, ?_⟩) (by assumption) ?_
        rotate_left 1
        · intro w hSw; (try dsimp only at hSw); (have l1 := hSw.1); (have l2 := hSw.2); go_simp; try with_reducible rfl
        try simp only [Act.put, List.getElem_toArray, List.getElem_cons_succ, List.getElem_cons_zero, List.setIfInBounds_toArray, List.set_cons_zero, List.set_cons_succ]
        refine wpAnyH_ready (rs := [9]) (by kernel_rfl) (by simp) ?_
        refine AllReadyH.cons rfl (fun K hK => ?_) AllReadyH.nil
        go_simp
        refine (HC.out _ _ _ HOd.out).mono ?_
        rintro e w1 ⟨rfl, b1⟩
        have HO1 := Lib.hid (HOd.out.then b1 HOd.out.size)
        have HS1 := Lib.hid (HSd.out.on b1)
        have cx1 := cell_on b1 cxd
        have cy1 := cell_on b1 cyd
        have z1 := b1.size
        clear b1
        go_wp2_with fail
        refine hK.out _ _ ?_ (fun hNew => ?_)
        · exact ⟨cx1, cy1⟩
        clear hK K hHeld
        have hHeld := hNew
        clear hNew
        try simp only [Act.put, List.getElem_toArray, List.getElem_cons_succ, List.getElem_cons_zero, List.setIfInBounds_toArray, List.set_cons_zero, List.set_cons_succ]
        refine wpAnyH_take (i := 10) (v := ?_) rfl (by kernel_rfl) (by kernel_rfl) (by kernel_rfl) (fun _ _ _ h => h) (Or.inl ⟨by kernel_rfl, ?_⟩) (by assumption) ?_
        rotate_left 1
        · intro w hSw; (try dsimp only at hSw); go_simp; try with_reducible rfl
        try simp only [Act.put, List.getElem_toArray, List.getElem_cons_succ, List.getElem_cons_zero, List.setIfInBounds_toArray, List.set_cons_zero, List.set_cons_succ]
        refine wpAnyH_done (by kernel_rfl) ?_ _
        go_wp2
        go_roundw
        case rel => exact ⟨i, k, by omega, by omega, by omega, rfl, (by first | rfl | go_num | (congr 1; omega)), HS1.out, HI.out, Or.inr (lt_no (by omega)), HO1.out⟩
        case measure => simp [intOf]; omega
    · obtain rfl : i = j := by omega
      clear hlt
      obtain ⟨i', hi'⟩ : ∃ x : Nat, (i : Int) - 1 = (x : Int) := ⟨i - 1, by omega⟩
      have hi'w : IntKind.i64.wrap (i' : Int) = i' := by rw [IntKind.wrap_i64]; omega
      go_wp2
      rename World => wo
      go_loopw [13] (fun p wr => ∃ k : Nat, a ≤ k ∧ k ≤ i' ∧ p = .int .i64 (k : Int) ∧ Sl wr lo hi 9 1 (some ⟨g, 0, none⟩) n c (strs (row (rota f a m (k + 1)) n)) ∧ Only g (g + 1) w0 wr) (fun p _ => i' - (intOf p).toNat)
      case atStart => exact ⟨a, Nat.le_refl _, by omega, rfl, by rw [rota_nil f a m (a + 1) (Or.inr HME.out) (by omega) (by have := HME.out; omega)]; exact HSL.out, HO.out⟩
      case round =>
        obtain ⟨k, hk1, hk2, rfl, hsl, ho⟩ := hrel
        replace HSL := Lib.hid hsl
        replace HO := Lib.hid ho
        clear hsl ho
        by_cases hlt : k < i'
        · skip
          obtain ⟨k', hk'⟩ : ∃ x : Nat, (k : Int) + 1 = (x : Int) := ⟨k + 1, by omega⟩
          have hk'w : IntKind.i64.wrap (k' : Int) = k' := by rw [IntKind.wrap_i64]; omega
          have hx0 : (0 : Int) ≤ k := by omega
          have hx1 : (k : Int) < n := by omega
          have hy0 : (0 : Int) ≤ k' := by omega
          have hy1 : (k' : Int) < n := by omega
          have hne : ¬ k = k' := by omega
          have hne2 : ¬ k' = k := by omega
          have HVX := Lib.hid (show rota f a m (k + 1) k = f a by rw [HME.out]; exact rota_end f hk1)
          have HVY := Lib.hid (show rota f a m (k + 1) k' = f k' from rota_out (by omega) (by omega) (by have := HME.out; omega))
          have HDN := Lib.hid (show swp (rota f a m (k + 1)) k k' = rota f a m (k' + 1) by rw [show k' = k + 1 by omega, HME.out]; exact rota_up f hk1)
          have cx : wr.cell? ⟨g, k, none⟩ = some (.string (f a)) := (HSL.out.cellAt k (by omega)).trans ((strs_row_get (by omega)).trans (by rw [HVX.out]))
          have cy : wr.cell? ⟨g, k', none⟩ = some (.string (f k')) := (HSL.out.cellAt k' (by omega)).trans ((strs_row_get (by omega)).trans (by rw [HVY.out]))
          have fx := HSL.out.frozenAt k
          have fy := HSL.out.frozenAt k'
          have HSW := Lib.hid (show Sl (((wr.setCell ⟨g, k, none⟩ (.string (f k'))).setCell ⟨g, k', none⟩ (.string (f a))).drew) lo hi 9 1 (some ⟨g, 0, none⟩) n c (strs (row (rota f a m (k' + 1)) n)) from by
            have := HSL.out.swp_ (i := k) (j := k')
            rw [HVX.out, HVY.out, HDN.out] at this
            exact this)
          go_wp2_with fail
          refine wp_region_any (by kernel_rfl) ?_
          try (change wpAny _ _ _ _ _ _ _ (World.drew _))
          refine wpAny_take (i := 0) (v := ?_) rfl (by kernel_rfl) (by kernel_rfl) (by kernel_rfl) (fun _ _ _ h => h) (Or.inl ⟨by kernel_rfl, ?_⟩) ?_
          rotate_left 1
          · intro w; go_simp; try with_reducible rfl
          try simp only [Act.put, List.getElem_toArray, List.getElem_cons_succ, List.getElem_cons_zero, List.setIfInBounds_toArray, List.set_cons_zero, List.set_cons_succ]
          refine wpAny_take (i := 1) (v := ?_) rfl (by kernel_rfl) (by kernel_rfl) (by kernel_rfl) (fun _ _ _ h => h) (Or.inl ⟨by kernel_rfl, ?_⟩) ?_
          rotate_left 1
          · intro w; go_simp; try with_reducible rfl
          try simp only [Act.put, List.getElem_toArray, List.getElem_cons_succ, List.getElem_cons_zero, List.setIfInBounds_toArray, List.set_cons_zero, List.set_cons_succ]
          refine wpAny_take (i := 2) (v := ?_) rfl (by kernel_rfl) (by kernel_rfl) (by kernel_rfl) (fun _ _ _ h => h) (Or.inl ⟨by kernel_rfl, ?_⟩) ?_
          rotate_left 1
          · intro w; go_simp; try with_reducible rfl
          try simp only [Act.put, List.getElem_toArray, List.getElem_cons_succ, List.getElem_cons_zero, List.setIfInBounds_toArray, List.set_cons_zero, List.set_cons_succ]
          refine wpAny_take (i := 3) (v := ?_) rfl (by kernel_rfl) (by kernel_rfl) (by kernel_rfl) (fun _ _ _ h => h) (Or.inl ⟨by kernel_rfl, ?_⟩) ?_
          rotate_left 1
          · intro w; go_simp; try with_reducible rfl
          try simp only [Act.put, List.getElem_toArray, List.getElem_cons_succ, List.getElem_cons_zero, List.setIfInBounds_toArray, List.set_cons_zero, List.set_cons_succ]
          refine wpAny_take (i := 4) (v := ?_) rfl (by kernel_rfl) (by kernel_rfl) (by kernel_rfl) (fun _ _ _ h => h) (Or.inl ⟨by kernel_rfl, ?_⟩) ?_
          rotate_left 1
          · intro w; go_simp; try with_reducible rfl
          try simp only [Act.put, List.getElem_toArray, List.getElem_cons_succ, List.getElem_cons_zero, List.setIfInBounds_toArray, List.set_cons_zero, List.set_cons_succ]
          refine wpAny_take (i := 5) (v := ?_) rfl (by kernel_rfl) (by kernel_rfl) (by kernel_rfl) (fun _ _ _ h => h) (Or.inl ⟨by kernel_rfl, ?_⟩) ?_
          rotate_left 1
          · intro w; go_simp; try with_reducible rfl
          try simp only [Act.put, List.getElem_toArray, List.getElem_cons_succ, List.getElem_cons_zero, List.setIfInBounds_toArray, List.set_cons_zero, List.set_cons_succ]
          refine wpAny_take (i := 6) (v := ?_) rfl (by kernel_rfl) (by kernel_rfl) (by kernel_rfl) (fun _ _ _ h => h) (Or.inl ⟨by kernel_rfl, ?_⟩) ?_
          rotate_left 1
          · intro w; go_simp; try with_reducible rfl
          try simp only [Act.put, List.getElem_toArray, List.getElem_cons_succ, List.getElem_cons_zero, List.setIfInBounds_toArray, List.set_cons_zero, List.set_cons_succ]
          refine wpAny_take (i := 7) (v := ?_) rfl (by kernel_rfl) (by kernel_rfl) (by kernel_rfl) (fun _ _ _ h => h) (Or.inl ⟨by kernel_rfl, ?_⟩) ?_
          rotate_left 1
          · intro w; go_simp; try with_reducible rfl
          try simp only [Act.put, List.getElem_toArray, List.getElem_cons_succ, List.getElem_cons_zero, List.setIfInBounds_toArray, List.set_cons_zero, List.set_cons_succ]
          refine wpAny_take (i := 8) (v := ?_) rfl (by kernel_rfl) (by kernel_rfl) (by kernel_rfl) (fun _ _ _ h => h) (Or.inl ⟨by kernel_rfl, ?_⟩) ?_
          rotate_left 1
          · intro w; go_simp; try with_reducible rfl
          try simp only [Act.put, List.getElem_toArray, List.getElem_cons_succ, List.getElem_cons_zero, List.setIfInBounds_toArray, List.set_cons_zero, List.set_cons_succ]
          refine wpAny_take (i := 10) (v := ?_) rfl (by kernel_rfl) (by kernel_rfl) (by kernel_rfl) (fun _ _ _ h => h) (Or.inl ⟨by kernel_rfl, ?_⟩) ?_
          rotate_left 1
          · intro w; go_simp; try with_reducible rfl
          try simp only [Act.put, List.getElem_toArray, List.getElem_cons_succ, List.getElem_cons_zero, List.setIfInBounds_toArray, List.set_cons_zero, List.set_cons_succ]
          refine wpAny_take (i := 11) (v := ?_) rfl (by kernel_rfl) (by kernel_rfl) (by kernel_rfl) (fun _ _ _ h => h) (Or.inl ⟨by kernel_rfl, ?_⟩) ?_
          rotate_left 1
          · intro w; go_simp; try with_reducible rfl
          try simp only [Act.put, List.getElem_toArray, List.getElem_cons_succ, List.getElem_cons_zero, List.setIfInBounds_toArray, List.set_cons_zero, List.set_cons_succ]
          refine wpAny_take (i := 12) (v := ?_) rfl (by kernel_rfl) (by kernel_rfl) (by kernel_rfl) (fun _ _ _ h => h) (Or.inl ⟨by kernel_rfl, ?_⟩) ?_
          rotate_left 1
          · intro w; go_simp; try with_reducible rfl
          try simp only [Act.put, List.getElem_toArray, List.getElem_cons_succ, List.getElem_cons_zero, List.setIfInBounds_toArray, List.set_cons_zero, List.set_cons_succ]
          refine wpAny_ready (rs := [9, 13]) (by kernel_rfl) (by simp) (AllReady.cons rfl (fun K hK => ?_) (AllReady.cons rfl (fun K hK => ?_) AllReady.nil))
          · go_simp
            refine hK _ _ ?_
            clear hK K
            try simp only [Act.put, List.getElem_toArray, List.getElem_cons_succ, List.getElem_cons_zero, List.setIfInBounds_toArray, List.set_cons_zero, List.set_cons_succ]
            refine wpAny_ready (rs := [13]) (by kernel_rfl) (by simp) (AllReady.cons rfl (fun K hK => ?_) AllReady.nil)
            go_simp
            refine hK _ _ ?_
            clear hK K
            try simp only [Act.put, List.getElem_toArray, List.getElem_cons_succ, List.getElem_cons_zero, List.setIfInBounds_toArray, List.set_cons_zero, List.set_cons_succ]
            refine wpAny_take (i := 14) (v := ?_) rfl (by kernel_rfl) (by kernel_rfl) (by kernel_rfl) (fun _ _ _ h => h) (Or.inl ⟨by kernel_rfl, ?_⟩) ?_
            rotate_left 1
            · intro w; go_simp; try with_reducible rfl
            try simp only [Act.put, List.getElem_toArray, List.getElem_cons_succ, List.getElem_cons_zero, List.setIfInBounds_toArray, List.set_cons_zero, List.set_cons_succ]
            refine wpAny_ready (rs := [15]) (by kernel_rfl) (by simp) (AllReady.cons rfl (fun K hK => ?_) AllReady.nil)
            go_simp
            refine hK _ _ ?_
            clear hK K
            try simp only [Act.put, List.getElem_toArray, List.getElem_cons_succ, List.getElem_cons_zero, List.setIfInBounds_toArray, List.set_cons_zero, List.set_cons_succ]
            refine wpAny_take (i := 16) (v := ?_) rfl (by kernel_rfl) (by kernel_rfl) (by kernel_rfl) (fun _ _ _ h => h) (Or.inl ⟨by kernel_rfl, ?_⟩) ?_
            rotate_left 1
            · intro w; go_simp; try with_reducible rfl
            try simp only [Act.put, List.getElem_toArray, List.getElem_cons_succ, List.getElem_cons_zero, List.setIfInBounds_toArray, List.set_cons_zero, List.set_cons_succ]
            refine wpAny_ready (rs := [17]) (by kernel_rfl) (by simp) (AllReady.cons rfl (fun K hK => ?_) AllReady.nil)
            go_simp
            refine hK _ _ ?_
            clear hK K
            try simp only [Act.put, List.getElem_toArray, List.getElem_cons_succ, List.getElem_cons_zero, List.setIfInBounds_toArray, List.set_cons_zero, List.set_cons_succ]
            refine wpAny_done (by kernel_rfl) ?_ _
            go_wp2
            go_roundw
            case rel => exact ⟨k', by omega, by omega, rfl, HSW.out, HO.out.swp_ _ _ _ _⟩
            case measure => simp [intOf]; omega
          · go_simp
            refine hK _ _ ?_
            clear hK K
            try simp only [Act.put, List.getElem_toArray, List.getElem_cons_succ, List.getElem_cons_zero, List.setIfInBounds_toArray, List.set_cons_zero, List.set_cons_succ]
            refine wpAny_ready (rs := [9]) (by kernel_rfl) (by simp) (AllReady.cons rfl (fun K hK => ?_) AllReady.nil)
            go_simp
            refine hK _ _ ?_
            clear hK K
            try simp only [Act.put, List.getElem_toArray, List.getElem_cons_succ, List.getElem_cons_zero, List.setIfInBounds_toArray, List.set_cons_zero, List.set_cons_succ]
            refine wpAny_take (i := 14) (v := ?_) rfl (by kernel_rfl) (by kernel_rfl) (by kernel_rfl) (fun _ _ _ h => h) (Or.inl ⟨by kernel_rfl, ?_⟩) ?_
            rotate_left 1
            · intro w; go_simp; try with_reducible rfl
            try simp only [Act.put, List.getElem_toArray, List.getElem_cons_succ, List.getElem_cons_zero, List.setIfInBounds_toArray, List.set_cons_zero, List.set_cons_succ]
            refine wpAny_ready (rs := [15]) (by kernel_rfl) (by simp) (AllReady.cons rfl (fun K hK => ?_) AllReady.nil)
            go_simp
            refine hK _ _ ?_
            clear hK K
            try simp only [Act.put, List.getElem_toArray, List.getElem_cons_succ, List.getElem_cons_zero, List.setIfInBounds_toArray, List.set_cons_zero, List.set_cons_succ]
            refine wpAny_take (i := 16) (v := ?_) rfl (by kernel_rfl) (by kernel_rfl) (by kernel_rfl) (fun _ _ _ h => h) (Or.inl ⟨by kernel_rfl, ?_⟩) ?_
            rotate_left 1
            · intro w; go_simp; try with_reducible rfl
            try simp only [Act.put, List.getElem_toArray, List.getElem_cons_succ, List.getElem_cons_zero, List.setIfInBounds_toArray, List.set_cons_zero, List.set_cons_succ]
            refine wpAny_ready (rs := [17]) (by kernel_rfl) (by simp) (AllReady.cons rfl (fun K hK => ?_) AllReady.nil)
            go_simp
            refine hK _ _ ?_
            clear hK K
            try simp only [Act.put, List.getElem_toArray, List.getElem_cons_succ, List.getElem_cons_zero, List.setIfInBounds_toArray, List.set_cons_zero, List.set_cons_succ]
            refine wpAny_done (by kernel_rfl) ?_ _
            go_wp2
            go_roundw
            case rel => exact ⟨k', by omega, by omega, rfl, HSW.out, HO.out.swp_ _ _ _ _⟩
            case measure => simp [intOf]; omega
        · have HKE := Lib.hid (show k + 1 = i by omega)
          go_wp2
          try simp only [Exit.inBlock, Exit.then]
          refine bodyPost_ret (results_none rfl _ _ _) rfl ?_
          refine ⟨rfl, rota f a m i, by rw [← HKE.out]; exact HSL.out, (rota_turned' f (by omega) hmi (by omega)).wide (Nat.le_refl _) (by omega), ?_, HO.out⟩
          have hme := HME.out
          subst hme
          exact put_up hord hmi (by omega) HS2.out HCR.out HI.out HJ.out

set_option maxHeartbeats 4000000 in
set_option maxRecDepth 100000 in
theorem symMerge_right (g n c lo hi g2 g3 : Nat) (cf : ByteArray → ByteArray → Int) (R S : ByteArray → ByteArray → Prop) (w0 : World) (hn : n ≤ 1000000000) (hc : CmpAt w0 g g2 g3 cf) (hord : Ord3 (fun x y => decide (cf x y < 0)) R S) (a m b : Nat) (f : Nat → ByteArray) (w : World) (ham : a < m) (hmb : m < b) (hb : b ≤ n) (h : Sl w lo hi 9 1 (some ⟨g, 0, none⟩) n c (strs (row (f) n))) (ho : Only g (g + 1) w0 w) (hs1 : Srt R f a m) (hs2 : Srt R f m b) (hcr : Crs S f a m b) (h1 : ¬ m - a = 1) (h2 : b - m = 1) :
    Calls Tryz.prog 181 #[.slice (some ⟨g, 0, none⟩) n c, .int .i64 (a : Int), .int .i64 (m : Int), .int .i64 (b : Int), .func (.func 78) #[] #[.pointer (some ⟨g2, 0, none⟩), .pointer (some ⟨g3, 0, none⟩)]] w fun e w' => e = .returned (.tuple #[]) ∧ ∃ f' : Nat → ByteArray, Sl w' lo hi 9 1 (some ⟨g, 0, none⟩) n c (strs (row (f') n)) ∧ Turned f f' a b n ∧ Srt R f' a b ∧ Only g (g + 1) w0 w' := by
  have HC := Lib.hid hc
  clear hc
  have HH := Lib.hid h
  have HO0 := Lib.hid ho
  have HS1f := Lib.hid hs1
  have HS2 := Lib.hid hs2
  have HCR := Lib.hid hcr
  clear h ho hs1 hs2 hcr
  go_enter Tryz.func181, Tryz.ntmps181
  have HCR := Lib.hid (show Crs S f a m (m + 1) by rw [show m + 1 = b by omega]; exact HCR.out)
  obtain ⟨d1, hd1⟩ : ∃ x : Nat, (m : Int) - (a : Int) = (x : Int) := ⟨m - a, by omega⟩
  have hd1w : IntKind.i64.wrap (d1 : Int) = d1 := by rw [IntKind.wrap_i64]; omega
  have hq1 : ((d1 : Int) == 1) = false := by rw [beq_eq_false_iff_ne]; omega
  have hq1' : (d1 == 1) = false := by rw [beq_eq_false_iff_ne]; omega
  have hq1n : ¬ d1 = 1 := by omega
  have hd1 : (b : Int) - (m : Int) = 1 := by omega
  have HBE := Lib.hid (show b = m + 1 by omega)
  clear h2
  go_wp2
  go_loopw [14, 15] (fun p q wr => ∃ i j : Nat, a ≤ i ∧ i ≤ j ∧ j ≤ m ∧ p = .int .i64 (i : Int) ∧ q = .int .i64 (j : Int) ∧ Sl wr lo hi 9 1 (some ⟨g, 0, none⟩) n c (strs (row (f) n)) ∧ (i = a ∨ (fun x y => decide (cf x y < 0)) (f m) (f (i - 1)) = false) ∧ (j = m ∨ (fun x y => decide (cf x y < 0)) (f m) (f j) = true) ∧ Only g (g + 1) w0 wr) (fun p q _ => (intOf q - intOf p).toNat)
  case atStart => exact ⟨a, m, Nat.le_refl _, by omega, Nat.le_refl _, rfl, rfl, HH.out, Or.inl rfl, Or.inl rfl, HO0.out⟩
  case round =>
    obtain ⟨i, j, hmi, hij, hjb, rfl, rfl, hsl, hil, hjl, ho⟩ := hrel
    have HSL := Lib.hid hsl
    have HO := Lib.hid ho
    have HI := Lib.hid hil
    have HJ := Lib.hid hjl
    clear hsl ho hil hjl HH HO0 hd1
    by_cases hlt : i < j
    · obtain ⟨k, hk⟩ : ∃ k : Nat, ((i : Int) + (j : Int)) / 2 = (k : Int) := ⟨(i + j) / 2, by omega⟩
      have hk1 : i ≤ k := by omega
      have hk2 : k < j := by omega
      have hy0 : (0 : Int) ≤ k := by omega
      have hy1 : (k : Int) < n := by omega
      have hx0 : (0 : Int) ≤ m := by omega
      have hx1 : (m : Int) < n := by omega
      have HVX := Lib.hid (show f m = f m from rfl)
      have HVY := Lib.hid (show f k = f k from rfl)
      by_cases hc : cf (f m) (f k) < 0
      · skip
        have HSd := Lib.hid (show Sl wr.drew lo hi 9 1 (some ⟨g, 0, none⟩) n c (strs (row (f) n)) from HSL.out.keep fun _ _ _ _ => rfl)
        have HOd := Lib.hid (show Only g (g + 1) w0 wr.drew from ⟨HO.out.os, HO.out.tape, HO.out.output, HO.out.size, HO.out.block⟩)
        have cxd : wr.drew.cell? ⟨g, m, none⟩ = some (.string (f m)) := (HSd.out.cellAt m (by omega)).trans ((strs_row_get (by omega)).trans (by rw [HVX.out]))
        have cyd : wr.drew.cell? ⟨g, k, none⟩ = some (.string (f k)) := (HSd.out.cellAt k (by omega)).trans ((strs_row_get (by omega)).trans (by rw [HVY.out]))
        go_wp2_with fail
        refine wp_region_held_drew (S := (fun W => W.cell? ⟨g, m, none⟩ = some (.string (f m)) ∧ W.cell? ⟨g, k, none⟩ = some (.string (f k)))) (by kernel_rfl) ?_ (fun hHeld => ?_)
        · exact ⟨cxd, cyd⟩
        refine wpAnyH_take (i := 0) (v := ?_) rfl (by kernel_rfl) (by kernel_rfl) (by kernel_rfl) (fun _ _ _ h => h) (Or.inl ⟨by kernel_rfl, ?_⟩) (by assumption) ?_
        rotate_left 1
        · intro w hSw; (try dsimp only at hSw); go_simp; try with_reducible rfl
        try simp only [Act.put, List.getElem_toArray, List.getElem_cons_succ, List.getElem_cons_zero, List.setIfInBounds_toArray, List.set_cons_zero, List.set_cons_succ]
        refine wpAnyH_take (i := 1) (v := ?_) rfl (by kernel_rfl) (by kernel_rfl) (by kernel_rfl) (fun _ _ _ h => h) (Or.inl ⟨by kernel_rfl, ?_⟩) (by assumption) ?_
        rotate_left 1
        · intro w hSw; (try dsimp only at hSw); go_simp; try with_reducible rfl
        try simp only [Act.put, List.getElem_toArray, List.getElem_cons_succ, List.getElem_cons_zero, List.setIfInBounds_toArray, List.set_cons_zero, List.set_cons_succ]
        refine wpAnyH_take (i := 2) (v := ?_) rfl (by kernel_rfl) (by kernel_rfl) (by kernel_rfl) (fun _ _ _ h => h) (Or.inl ⟨by kernel_rfl, ?_⟩) (by assumption) ?_
        rotate_left 1
        · intro w hSw; (try dsimp only at hSw); go_simp; try with_reducible rfl
        try simp only [Act.put, List.getElem_toArray, List.getElem_cons_succ, List.getElem_cons_zero, List.setIfInBounds_toArray, List.set_cons_zero, List.set_cons_succ]
        refine wpAnyH_take (i := 3) (v := ?_) rfl (by kernel_rfl) (by kernel_rfl) (by kernel_rfl) (fun _ _ _ h => h) (Or.inl ⟨by kernel_rfl, ?_⟩) (by assumption) ?_
        rotate_left 1
        · intro w hSw; (try dsimp only at hSw); go_simp; try with_reducible rfl
        try simp only [Act.put, List.getElem_toArray, List.getElem_cons_succ, List.getElem_cons_zero, List.setIfInBounds_toArray, List.set_cons_zero, List.set_cons_succ]
        refine wpAnyH_take (i := 4) (v := ?_) rfl (by kernel_rfl) (by kernel_rfl) (by kernel_rfl) (fun _ _ _ h => h) (Or.inl ⟨by kernel_rfl, ?_⟩) (by assumption) ?_
        rotate_left 1
        · intro w hSw; (try dsimp only at hSw); (have l1 := hSw.1); (have l2 := hSw.2); go_simp; try with_reducible rfl
        try simp only [Act.put, List.getElem_toArray, List.getElem_cons_succ, List.getElem_cons_zero, List.setIfInBounds_toArray, List.set_cons_zero, List.set_cons_succ]
        refine wpAnyH_take (i := 5) (v := ?_) rfl (by kernel_rfl) (by kernel_rfl) (by kernel_rfl) (fun _ _ _ h => h) (Or.inl ⟨by kernel_rfl, ?_⟩) (by assumption) ?_
        rotate_left 1
        · intro w hSw; (try dsimp only at hSw); go_simp; try with_reducible rfl
        try simp only [Act.put, List.getElem_toArray, List.getElem_cons_succ, List.getElem_cons_zero, List.setIfInBounds_toArray, List.set_cons_zero, List.set_cons_succ]
        refine wpAnyH_take (i := 6) (v := ?_) rfl (by kernel_rfl) (by kernel_rfl) (by kernel_rfl) (fun _ _ _ h => h) (Or.inl ⟨by kernel_rfl, ?_⟩) (by assumption) ?_
        rotate_left 1
        · intro w hSw; (try dsimp only at hSw); go_simp; try with_reducible rfl
        try simp only [Act.put, List.getElem_toArray, List.getElem_cons_succ, List.getElem_cons_zero, List.setIfInBounds_toArray, List.set_cons_zero, List.set_cons_succ]
        refine wpAnyH_take (i := 7) (v := ?_) rfl (by kernel_rfl) (by kernel_rfl) (by kernel_rfl) (fun _ _ _ h => h) (Or.inl ⟨by kernel_rfl, ?_⟩) (by assumption) ?_
        rotate_left 1
        · intro w hSw; (try dsimp only at hSw); go_simp; try with_reducible rfl
        try simp only [Act.put, List.getElem_toArray, List.getElem_cons_succ, List.getElem_cons_zero, List.setIfInBounds_toArray, List.set_cons_zero, List.set_cons_succ]
        refine wpAnyH_take (i := 8) (v := ?_) rfl (by kernel_rfl) (by kernel_rfl) (by kernel_rfl) (fun _ _ _ h => h) (Or.inl ⟨by kernel_rfl, ?_⟩) (by assumption) ?_
        rotate_left 1
        · intro w hSw; (try dsimp only at hSw); (have l1 := hSw.1); (have l2 := hSw.2); go_simp; try with_reducible rfl
        try simp only [Act.put, List.getElem_toArray, List.getElem_cons_succ, List.getElem_cons_zero, List.setIfInBounds_toArray, List.set_cons_zero, List.set_cons_succ]
        refine wpAnyH_ready (rs := [9]) (by kernel_rfl) (by simp) ?_
        refine AllReadyH.cons rfl (fun K hK => ?_) AllReadyH.nil
        go_simp
        refine (HC.out _ _ _ HOd.out).mono ?_
        rintro e w1 ⟨rfl, b1⟩
        have HO1 := Lib.hid (HOd.out.then b1 HOd.out.size)
        have HS1 := Lib.hid (HSd.out.on b1)
        have cx1 := cell_on b1 cxd
        have cy1 := cell_on b1 cyd
        have z1 := b1.size
        clear b1
        go_wp2_with fail
        refine hK.out _ _ ?_ (fun hNew => ?_)
        · exact ⟨cx1, cy1⟩
        clear hK K hHeld
        have hHeld := hNew
        clear hNew
        try simp only [Act.put, List.getElem_toArray, List.getElem_cons_succ, List.getElem_cons_zero, List.setIfInBounds_toArray, List.set_cons_zero, List.set_cons_succ]
        refine wpAnyH_take (i := 10) (v := ?_) rfl (by kernel_rfl) (by kernel_rfl) (by kernel_rfl) (fun _ _ _ h => h) (Or.inl ⟨by kernel_rfl, ?_⟩) (by assumption) ?_
        rotate_left 1
        · intro w hSw; (try dsimp only at hSw); go_simp; try with_reducible rfl
        try simp only [Act.put, List.getElem_toArray, List.getElem_cons_succ, List.getElem_cons_zero, List.setIfInBounds_toArray, List.set_cons_zero, List.set_cons_succ]
        refine wpAnyH_take (i := 11) (v := ?_) rfl (by kernel_rfl) (by kernel_rfl) (by kernel_rfl) (fun _ _ _ h => h) (Or.inl ⟨by kernel_rfl, ?_⟩) (by assumption) ?_
        rotate_left 1
        · intro w hSw; (try dsimp only at hSw); go_simp; try with_reducible rfl
        try simp only [Act.put, List.getElem_toArray, List.getElem_cons_succ, List.getElem_cons_zero, List.setIfInBounds_toArray, List.set_cons_zero, List.set_cons_succ]
        refine wpAnyH_done (by kernel_rfl) ?_ _
        go_wp2
        go_roundw
        case rel => exact ⟨i, k, by omega, by omega, by omega, rfl, (by first | rfl | go_num | (congr 1; omega)), HS1.out, HI.out, Or.inr (lt_yes hc), HO1.out⟩
        case measure => simp [intOf]; omega
      · have hc1 : decide (cf (f m) (f k) < 0) = false := decide_eq_false hc
        have HSd := Lib.hid (show Sl wr.drew lo hi 9 1 (some ⟨g, 0, none⟩) n c (strs (row (f) n)) from HSL.out.keep fun _ _ _ _ => rfl)
        have HOd := Lib.hid (show Only g (g + 1) w0 wr.drew from ⟨HO.out.os, HO.out.tape, HO.out.output, HO.out.size, HO.out.block⟩)
        have cxd : wr.drew.cell? ⟨g, m, none⟩ = some (.string (f m)) := (HSd.out.cellAt m (by omega)).trans ((strs_row_get (by omega)).trans (by rw [HVX.out]))
        have cyd : wr.drew.cell? ⟨g, k, none⟩ = some (.string (f k)) := (HSd.out.cellAt k (by omega)).trans ((strs_row_get (by omega)).trans (by rw [HVY.out]))
        go_wp2_with fail
        refine wp_region_held_drew (S := (fun W => W.cell? ⟨g, m, none⟩ = some (.string (f m)) ∧ W.cell? ⟨g, k, none⟩ = some (.string (f k)))) (by kernel_rfl) ?_ (fun hHeld => ?_)
        · exact ⟨cxd, cyd⟩
        refine wpAnyH_take (i := 0) (v := ?_) rfl (by kernel_rfl) (by kernel_rfl) (by kernel_rfl) (fun _ _ _ h => h) (Or.inl ⟨by kernel_rfl, ?_⟩) (by assumption) ?_
        rotate_left 1
        · intro w hSw; (try dsimp only at hSw); go_simp; try with_reducible rfl
        try simp only [Act.put, List.getElem_toArray, List.getElem_cons_succ, List.getElem_cons_zero, List.setIfInBounds_toArray, List.set_cons_zero, List.set_cons_succ]
        refine wpAnyH_take (i := 1) (v := ?_) rfl (by kernel_rfl) (by kernel_rfl) (by kernel_rfl) (fun _ _ _ h => h) (Or.inl ⟨by kernel_rfl, ?_⟩) (by assumption) ?_
        rotate_left 1
        · intro w hSw; (try dsimp only at hSw); go_simp; try with_reducible rfl
        try simp only [Act.put, List.getElem_toArray, List.getElem_cons_succ, List.getElem_cons_zero, List.setIfInBounds_toArray, List.set_cons_zero, List.set_cons_succ]
        refine wpAnyH_take (i := 2) (v := ?_) rfl (by kernel_rfl) (by kernel_rfl) (by kernel_rfl) (fun _ _ _ h => h) (Or.inl ⟨by kernel_rfl, ?_⟩) (by assumption) ?_
        rotate_left 1
        · intro w hSw; (try dsimp only at hSw); go_simp; try with_reducible rfl
        try simp only [Act.put, List.getElem_toArray, List.getElem_cons_succ, List.getElem_cons_zero, List.setIfInBounds_toArray, List.set_cons_zero, List.set_cons_succ]
        refine wpAnyH_take (i := 3) (v := ?_) rfl (by kernel_rfl) (by kernel_rfl) (by kernel_rfl) (fun _ _ _ h => h) (Or.inl ⟨by kernel_rfl, ?_⟩) (by assumption) ?_
        rotate_left 1
        · intro w hSw; (try dsimp only at hSw); go_simp; try with_reducible rfl
        try simp only [Act.put, List.getElem_toArray, List.getElem_cons_succ, List.getElem_cons_zero, List.setIfInBounds_toArray, List.set_cons_zero, List.set_cons_succ]
        refine wpAnyH_take (i := 4) (v := ?_) rfl (by kernel_rfl) (by kernel_rfl) (by kernel_rfl) (fun _ _ _ h => h) (Or.inl ⟨by kernel_rfl, ?_⟩) (by assumption) ?_
        rotate_left 1
        · intro w hSw; (try dsimp only at hSw); (have l1 := hSw.1); (have l2 := hSw.2); go_simp; try with_reducible rfl
        try simp only [Act.put, List.getElem_toArray, List.getElem_cons_succ, List.getElem_cons_zero, List.setIfInBounds_toArray, List.set_cons_zero, List.set_cons_succ]
        refine wpAnyH_take (i := 5) (v := ?_) rfl (by kernel_rfl) (by kernel_rfl) (by kernel_rfl) (fun _ _ _ h => h) (Or.inl ⟨by kernel_rfl, ?_⟩) (by assumption) ?_
        rotate_left 1
        · intro w hSw; (try dsimp only at hSw); go_simp; try with_reducible rfl
        try simp only [Act.put, List.getElem_toArray, List.getElem_cons_succ, List.getElem_cons_zero, List.setIfInBounds_toArray, List.set_cons_zero, List.set_cons_succ]
        refine wpAnyH_take (i := 6) (v := ?_) rfl (by kernel_rfl) (by kernel_rfl) (by kernel_rfl) (fun _ _ _ h => h) (Or.inl ⟨by kernel_rfl, ?_⟩) (by assumption) ?_
        rotate_left 1
        · intro w hSw; (try dsimp only at hSw); go_simp; try with_reducible rfl
        try simp only [Act.put, List.getElem_toArray, List.getElem_cons_succ, List.getElem_cons_zero, List.setIfInBounds_toArray, List.set_cons_zero, List.set_cons_succ]
        refine wpAnyH_take (i := 7) (v := ?_) rfl (by kernel_rfl) (by kernel_rfl) (by kernel_rfl) (fun _ _ _ h => h) (Or.inl ⟨by kernel_rfl, ?_⟩) (by assumption) ?_
        rotate_left 1
        · intro w hSw; (try dsimp only at hSw); go_simp; try with_reducible rfl
        try simp only [Act.put, List.getElem_toArray, List.getElem_cons_succ, List.getElem_cons_zero, List.setIfInBounds_toArray, List.set_cons_zero, List.set_cons_succ]
        refine wpAnyH_take (i := 8) (v := ?_) rfl (by kernel_rfl) (by kernel_rfl) (by kernel_rfl) (fun _ _ _ h => h) (Or.inl ⟨by kernel_rfl, ?_⟩) (by assumption) ?_
        rotate_left 1
        · intro w hSw; (try dsimp only at hSw); (have l1 := hSw.1); (have l2 := hSw.2); go_simp; try with_reducible rfl
        try simp only [Act.put, List.getElem_toArray, List.getElem_cons_succ, List.getElem_cons_zero, List.setIfInBounds_toArray, List.set_cons_zero, List.set_cons_succ]
        refine wpAnyH_ready (rs := [9]) (by kernel_rfl) (by simp) ?_
        refine AllReadyH.cons rfl (fun K hK => ?_) AllReadyH.nil
        go_simp
        refine (HC.out _ _ _ HOd.out).mono ?_
        rintro e w1 ⟨rfl, b1⟩
        have HO1 := Lib.hid (HOd.out.then b1 HOd.out.size)
        have HS1 := Lib.hid (HSd.out.on b1)
        have cx1 := cell_on b1 cxd
        have cy1 := cell_on b1 cyd
        have z1 := b1.size
        clear b1
        go_wp2_with fail
        refine hK.out _ _ ?_ (fun hNew => ?_)
        · exact ⟨cx1, cy1⟩
        clear hK K hHeld
        have hHeld := hNew
        clear hNew
        try simp only [Act.put, List.getElem_toArray, List.getElem_cons_succ, List.getElem_cons_zero, List.setIfInBounds_toArray, List.set_cons_zero, List.set_cons_succ]
        refine wpAnyH_take (i := 10) (v := ?_) rfl (by kernel_rfl) (by kernel_rfl) (by kernel_rfl) (fun _ _ _ h => h) (Or.inl ⟨by kernel_rfl, ?_⟩) (by assumption) ?_
        rotate_left 1
        · intro w hSw; (try dsimp only at hSw); go_simp; try with_reducible rfl
        try simp only [Act.put, List.getElem_toArray, List.getElem_cons_succ, List.getElem_cons_zero, List.setIfInBounds_toArray, List.set_cons_zero, List.set_cons_succ]
        refine wpAnyH_take (i := 11) (v := ?_) rfl (by kernel_rfl) (by kernel_rfl) (by kernel_rfl) (fun _ _ _ h => h) (Or.inl ⟨by kernel_rfl, ?_⟩) (by assumption) ?_
        rotate_left 1
        · intro w hSw; (try dsimp only at hSw); go_simp; try with_reducible rfl
        try simp only [Act.put, List.getElem_toArray, List.getElem_cons_succ, List.getElem_cons_zero, List.setIfInBounds_toArray, List.set_cons_zero, List.set_cons_succ]
        refine wpAnyH_done (by kernel_rfl) ?_ _
        go_wp2
        go_roundw
        case rel => exact ⟨k + 1, j, by omega, by omega, by omega, (by first | rfl | go_num | (congr 1; omega)), rfl, HS1.out, Or.inr (by rw [Nat.add_sub_cancel]; exact lt_no (by omega)), HJ.out, HO1.out⟩
        case measure => simp [intOf]; omega
    · obtain rfl : i = j := by omega
      clear hlt
      go_wp2
      rename World => wo
      go_loopw [17] (fun p wr => ∃ k : Nat, i ≤ k ∧ k ≤ m ∧ p = .int .i64 (k : Int) ∧ Sl wr lo hi 9 1 (some ⟨g, 0, none⟩) n c (strs (row (rota f k m (m + 1)) n)) ∧ Only g (g + 1) w0 wr) (fun p _ => (intOf p).toNat - i)
      case atStart => exact ⟨m, by omega, Nat.le_refl _, rfl, by rw [rota_nil f m m (m + 1) (Or.inl rfl) (Nat.le_refl _) (by omega)]; exact HSL.out, HO.out⟩
      case round =>
        obtain ⟨k, hk1, hk2, rfl, hsl, ho⟩ := hrel
        replace HSL := Lib.hid hsl
        replace HO := Lib.hid ho
        clear hsl ho
        by_cases hlt : i < k
        · skip
          obtain ⟨k', hk'⟩ : ∃ x : Nat, (k : Int) - 1 = (x : Int) := ⟨k - 1, by omega⟩
          have hk'w : IntKind.i64.wrap (k' : Int) = k' := by rw [IntKind.wrap_i64]; omega
          have hx0 : (0 : Int) ≤ k := by omega
          have hx1 : (k : Int) < n := by omega
          have hy0 : (0 : Int) ≤ k' := by omega
          have hy1 : (k' : Int) < n := by omega
          have hne : ¬ k = k' := by omega
          have hne2 : ¬ k' = k := by omega
          have HVX := Lib.hid (rota_at f k m)
          have HVY := Lib.hid (rota_lo f (k := k) (m := m) (b := m + 1) (show k' < k by omega))
          have HDN := Lib.hid (show swp (rota f k m (m + 1)) k k' = rota f k' m (m + 1) by rw [show k = k' + 1 by omega]; exact rota_down f (by omega))
          have cx : wr.cell? ⟨g, k, none⟩ = some (.string (f m)) := (HSL.out.cellAt k (by omega)).trans ((strs_row_get (by omega)).trans (by rw [HVX.out]))
          have cy : wr.cell? ⟨g, k', none⟩ = some (.string (f k')) := (HSL.out.cellAt k' (by omega)).trans ((strs_row_get (by omega)).trans (by rw [HVY.out]))
          have fx := HSL.out.frozenAt k
          have fy := HSL.out.frozenAt k'
          have HSW := Lib.hid (show Sl (((wr.setCell ⟨g, k, none⟩ (.string (f k'))).setCell ⟨g, k', none⟩ (.string (f m))).drew) lo hi 9 1 (some ⟨g, 0, none⟩) n c (strs (row (rota f k' m (m + 1)) n)) from by
            have := HSL.out.swp_ (i := k) (j := k')
            rw [HVX.out, HVY.out, HDN.out] at this
            exact this)
          go_wp2_with fail
          refine wp_region_any (by kernel_rfl) ?_
          try (change wpAny _ _ _ _ _ _ _ (World.drew _))
          refine wpAny_take (i := 0) (v := ?_) rfl (by kernel_rfl) (by kernel_rfl) (by kernel_rfl) (fun _ _ _ h => h) (Or.inl ⟨by kernel_rfl, ?_⟩) ?_
          rotate_left 1
          · intro w; go_simp; try with_reducible rfl
          try simp only [Act.put, List.getElem_toArray, List.getElem_cons_succ, List.getElem_cons_zero, List.setIfInBounds_toArray, List.set_cons_zero, List.set_cons_succ]
          refine wpAny_take (i := 1) (v := ?_) rfl (by kernel_rfl) (by kernel_rfl) (by kernel_rfl) (fun _ _ _ h => h) (Or.inl ⟨by kernel_rfl, ?_⟩) ?_
          rotate_left 1
          · intro w; go_simp; try with_reducible rfl
          try simp only [Act.put, List.getElem_toArray, List.getElem_cons_succ, List.getElem_cons_zero, List.setIfInBounds_toArray, List.set_cons_zero, List.set_cons_succ]
          refine wpAny_take (i := 2) (v := ?_) rfl (by kernel_rfl) (by kernel_rfl) (by kernel_rfl) (fun _ _ _ h => h) (Or.inl ⟨by kernel_rfl, ?_⟩) ?_
          rotate_left 1
          · intro w; go_simp; try with_reducible rfl
          try simp only [Act.put, List.getElem_toArray, List.getElem_cons_succ, List.getElem_cons_zero, List.setIfInBounds_toArray, List.set_cons_zero, List.set_cons_succ]
          refine wpAny_take (i := 3) (v := ?_) rfl (by kernel_rfl) (by kernel_rfl) (by kernel_rfl) (fun _ _ _ h => h) (Or.inl ⟨by kernel_rfl, ?_⟩) ?_
          rotate_left 1
          · intro w; go_simp; try with_reducible rfl
          try simp only [Act.put, List.getElem_toArray, List.getElem_cons_succ, List.getElem_cons_zero, List.setIfInBounds_toArray, List.set_cons_zero, List.set_cons_succ]
          refine wpAny_take (i := 4) (v := ?_) rfl (by kernel_rfl) (by kernel_rfl) (by kernel_rfl) (fun _ _ _ h => h) (Or.inl ⟨by kernel_rfl, ?_⟩) ?_
          rotate_left 1
          · intro w; go_simp; try with_reducible rfl
          try simp only [Act.put, List.getElem_toArray, List.getElem_cons_succ, List.getElem_cons_zero, List.setIfInBounds_toArray, List.set_cons_zero, List.set_cons_succ]
          refine wpAny_take (i := 5) (v := ?_) rfl (by kernel_rfl) (by kernel_rfl) (by kernel_rfl) (fun _ _ _ h => h) (Or.inl ⟨by kernel_rfl, ?_⟩) ?_
          rotate_left 1
          · intro w; go_simp; try with_reducible rfl
          try simp only [Act.put, List.getElem_toArray, List.getElem_cons_succ, List.getElem_cons_zero, List.setIfInBounds_toArray, List.set_cons_zero, List.set_cons_succ]
          refine wpAny_take (i := 6) (v := ?_) rfl (by kernel_rfl) (by kernel_rfl) (by kernel_rfl) (fun _ _ _ h => h) (Or.inl ⟨by kernel_rfl, ?_⟩) ?_
          rotate_left 1
          · intro w; go_simp; try with_reducible rfl
          try simp only [Act.put, List.getElem_toArray, List.getElem_cons_succ, List.getElem_cons_zero, List.setIfInBounds_toArray, List.set_cons_zero, List.set_cons_succ]
          refine wpAny_take (i := 7) (v := ?_) rfl (by kernel_rfl) (by kernel_rfl) (by kernel_rfl) (fun _ _ _ h => h) (Or.inl ⟨by kernel_rfl, ?_⟩) ?_
          rotate_left 1
          · intro w; go_simp; try with_reducible rfl
          try simp only [Act.put, List.getElem_toArray, List.getElem_cons_succ, List.getElem_cons_zero, List.setIfInBounds_toArray, List.set_cons_zero, List.set_cons_succ]
          refine wpAny_take (i := 8) (v := ?_) rfl (by kernel_rfl) (by kernel_rfl) (by kernel_rfl) (fun _ _ _ h => h) (Or.inl ⟨by kernel_rfl, ?_⟩) ?_
          rotate_left 1
          · intro w; go_simp; try with_reducible rfl
          try simp only [Act.put, List.getElem_toArray, List.getElem_cons_succ, List.getElem_cons_zero, List.setIfInBounds_toArray, List.set_cons_zero, List.set_cons_succ]
          refine wpAny_take (i := 10) (v := ?_) rfl (by kernel_rfl) (by kernel_rfl) (by kernel_rfl) (fun _ _ _ h => h) (Or.inl ⟨by kernel_rfl, ?_⟩) ?_
          rotate_left 1
          · intro w; go_simp; try with_reducible rfl
          try simp only [Act.put, List.getElem_toArray, List.getElem_cons_succ, List.getElem_cons_zero, List.setIfInBounds_toArray, List.set_cons_zero, List.set_cons_succ]
          refine wpAny_take (i := 11) (v := ?_) rfl (by kernel_rfl) (by kernel_rfl) (by kernel_rfl) (fun _ _ _ h => h) (Or.inl ⟨by kernel_rfl, ?_⟩) ?_
          rotate_left 1
          · intro w; go_simp; try with_reducible rfl
          try simp only [Act.put, List.getElem_toArray, List.getElem_cons_succ, List.getElem_cons_zero, List.setIfInBounds_toArray, List.set_cons_zero, List.set_cons_succ]
          refine wpAny_take (i := 12) (v := ?_) rfl (by kernel_rfl) (by kernel_rfl) (by kernel_rfl) (fun _ _ _ h => h) (Or.inl ⟨by kernel_rfl, ?_⟩) ?_
          rotate_left 1
          · intro w; go_simp; try with_reducible rfl
          try simp only [Act.put, List.getElem_toArray, List.getElem_cons_succ, List.getElem_cons_zero, List.setIfInBounds_toArray, List.set_cons_zero, List.set_cons_succ]
          refine wpAny_ready (rs := [9, 13]) (by kernel_rfl) (by simp) (AllReady.cons rfl (fun K hK => ?_) (AllReady.cons rfl (fun K hK => ?_) AllReady.nil))
          · go_simp
            refine hK _ _ ?_
            clear hK K
            try simp only [Act.put, List.getElem_toArray, List.getElem_cons_succ, List.getElem_cons_zero, List.setIfInBounds_toArray, List.set_cons_zero, List.set_cons_succ]
            refine wpAny_ready (rs := [13]) (by kernel_rfl) (by simp) (AllReady.cons rfl (fun K hK => ?_) AllReady.nil)
            go_simp
            refine hK _ _ ?_
            clear hK K
            try simp only [Act.put, List.getElem_toArray, List.getElem_cons_succ, List.getElem_cons_zero, List.setIfInBounds_toArray, List.set_cons_zero, List.set_cons_succ]
            refine wpAny_take (i := 14) (v := ?_) rfl (by kernel_rfl) (by kernel_rfl) (by kernel_rfl) (fun _ _ _ h => h) (Or.inl ⟨by kernel_rfl, ?_⟩) ?_
            rotate_left 1
            · intro w; go_simp; try with_reducible rfl
            try simp only [Act.put, List.getElem_toArray, List.getElem_cons_succ, List.getElem_cons_zero, List.setIfInBounds_toArray, List.set_cons_zero, List.set_cons_succ]
            refine wpAny_ready (rs := [15]) (by kernel_rfl) (by simp) (AllReady.cons rfl (fun K hK => ?_) AllReady.nil)
            go_simp
            refine hK _ _ ?_
            clear hK K
            try simp only [Act.put, List.getElem_toArray, List.getElem_cons_succ, List.getElem_cons_zero, List.setIfInBounds_toArray, List.set_cons_zero, List.set_cons_succ]
            refine wpAny_take (i := 16) (v := ?_) rfl (by kernel_rfl) (by kernel_rfl) (by kernel_rfl) (fun _ _ _ h => h) (Or.inl ⟨by kernel_rfl, ?_⟩) ?_
            rotate_left 1
            · intro w; go_simp; try with_reducible rfl
            try simp only [Act.put, List.getElem_toArray, List.getElem_cons_succ, List.getElem_cons_zero, List.setIfInBounds_toArray, List.set_cons_zero, List.set_cons_succ]
            refine wpAny_ready (rs := [17]) (by kernel_rfl) (by simp) (AllReady.cons rfl (fun K hK => ?_) AllReady.nil)
            go_simp
            refine hK _ _ ?_
            clear hK K
            try simp only [Act.put, List.getElem_toArray, List.getElem_cons_succ, List.getElem_cons_zero, List.setIfInBounds_toArray, List.set_cons_zero, List.set_cons_succ]
            refine wpAny_done (by kernel_rfl) ?_ _
            go_wp2
            go_roundw
            case rel => exact ⟨k', by omega, by omega, rfl, HSW.out, HO.out.swp_ _ _ _ _⟩
            case measure => simp [intOf]; omega
          · go_simp
            refine hK _ _ ?_
            clear hK K
            try simp only [Act.put, List.getElem_toArray, List.getElem_cons_succ, List.getElem_cons_zero, List.setIfInBounds_toArray, List.set_cons_zero, List.set_cons_succ]
            refine wpAny_ready (rs := [9]) (by kernel_rfl) (by simp) (AllReady.cons rfl (fun K hK => ?_) AllReady.nil)
            go_simp
            refine hK _ _ ?_
            clear hK K
            try simp only [Act.put, List.getElem_toArray, List.getElem_cons_succ, List.getElem_cons_zero, List.setIfInBounds_toArray, List.set_cons_zero, List.set_cons_succ]
            refine wpAny_take (i := 14) (v := ?_) rfl (by kernel_rfl) (by kernel_rfl) (by kernel_rfl) (fun _ _ _ h => h) (Or.inl ⟨by kernel_rfl, ?_⟩) ?_
            rotate_left 1
            · intro w; go_simp; try with_reducible rfl
            try simp only [Act.put, List.getElem_toArray, List.getElem_cons_succ, List.getElem_cons_zero, List.setIfInBounds_toArray, List.set_cons_zero, List.set_cons_succ]
            refine wpAny_ready (rs := [15]) (by kernel_rfl) (by simp) (AllReady.cons rfl (fun K hK => ?_) AllReady.nil)
            go_simp
            refine hK _ _ ?_
            clear hK K
            try simp only [Act.put, List.getElem_toArray, List.getElem_cons_succ, List.getElem_cons_zero, List.setIfInBounds_toArray, List.set_cons_zero, List.set_cons_succ]
            refine wpAny_take (i := 16) (v := ?_) rfl (by kernel_rfl) (by kernel_rfl) (by kernel_rfl) (fun _ _ _ h => h) (Or.inl ⟨by kernel_rfl, ?_⟩) ?_
            rotate_left 1
            · intro w; go_simp; try with_reducible rfl
            try simp only [Act.put, List.getElem_toArray, List.getElem_cons_succ, List.getElem_cons_zero, List.setIfInBounds_toArray, List.set_cons_zero, List.set_cons_succ]
            refine wpAny_ready (rs := [17]) (by kernel_rfl) (by simp) (AllReady.cons rfl (fun K hK => ?_) AllReady.nil)
            go_simp
            refine hK _ _ ?_
            clear hK K
            try simp only [Act.put, List.getElem_toArray, List.getElem_cons_succ, List.getElem_cons_zero, List.setIfInBounds_toArray, List.set_cons_zero, List.set_cons_succ]
            refine wpAny_done (by kernel_rfl) ?_ _
            go_wp2
            go_roundw
            case rel => exact ⟨k', by omega, by omega, rfl, HSW.out, HO.out.swp_ _ _ _ _⟩
            case measure => simp [intOf]; omega
        · obtain rfl : k = i := by omega
          go_wp2
          try simp only [Exit.inBlock, Exit.then]
          refine bodyPost_ret (results_none rfl _ _ _) rfl ?_
          have hbe := HBE.out
          subst hbe
          exact ⟨rfl, rota f k m (m + 1), HSL.out, (rota_turned' f (by omega) (by omega) (by omega)).wide (by omega) (Nat.le_refl _), put_down hord hmi hjb HS1f.out HCR.out HI.out HJ.out, HO.out⟩

set_option maxHeartbeats 4000000 in
set_option maxRecDepth 100000 in
theorem symMerge_both (g n c lo hi g2 g3 : Nat) (cf : ByteArray → ByteArray → Int) (R S : ByteArray → ByteArray → Prop) (w0 : World) (hn : n ≤ 1000000000) (hc : CmpAt w0 g g2 g3 cf) (hord : Ord3 (fun x y => decide (cf x y < 0)) R S) (qq : Nat) (ih : ∀ (a m b : Nat) (f : Nat → ByteArray) (w : World), b - a ≤ qq → a < m → m < b → b ≤ n → Sl w lo hi 9 1 (some ⟨g, 0, none⟩) n c (strs (row (f) n)) → Only g (g + 1) w0 w → Srt R f a m → Srt R f m b → Crs S f a m b → Calls Tryz.prog 181 #[.slice (some ⟨g, 0, none⟩) n c, .int .i64 (a : Int), .int .i64 (m : Int), .int .i64 (b : Int), .func (.func 78) #[] #[.pointer (some ⟨g2, 0, none⟩), .pointer (some ⟨g3, 0, none⟩)]] w fun e w' => e = .returned (.tuple #[]) ∧ ∃ f' : Nat → ByteArray, Sl w' lo hi 9 1 (some ⟨g, 0, none⟩) n c (strs (row (f') n)) ∧ Turned f f' a b n ∧ Srt R f' a b ∧ Only g (g + 1) w0 w') (a m b : Nat) (f : Nat → ByteArray) (w : World) (ham : a < m) (hmb : m < b) (hb : b ≤ n) (h : Sl w lo hi 9 1 (some ⟨g, 0, none⟩) n c (strs (row (f) n))) (ho : Only g (g + 1) w0 w) (hs1 : Srt R f a m) (hs2 : Srt R f m b) (hcr : Crs S f a m b) (hqq : b - a ≤ qq + 1) (h1 : ¬ m - a = 1) (h2 : ¬ b - m = 1) :
    Calls Tryz.prog 181 #[.slice (some ⟨g, 0, none⟩) n c, .int .i64 (a : Int), .int .i64 (m : Int), .int .i64 (b : Int), .func (.func 78) #[] #[.pointer (some ⟨g2, 0, none⟩), .pointer (some ⟨g3, 0, none⟩)]] w fun e w' => e = .returned (.tuple #[]) ∧ ∃ f' : Nat → ByteArray, Sl w' lo hi 9 1 (some ⟨g, 0, none⟩) n c (strs (row (f') n)) ∧ Turned f f' a b n ∧ Srt R f' a b ∧ Only g (g + 1) w0 w' := by
  have HC := Lib.hid hc
  clear hc
  have HH := Lib.hid h
  have HO0 := Lib.hid ho
  have HS1f := Lib.hid hs1
  have HS2 := Lib.hid hs2
  have HCR := Lib.hid hcr
  clear h ho hs1 hs2 hcr
  have IH := Lib.hid ih
  clear ih
  go_enter Tryz.func181, Tryz.ntmps181
  have HMID := Lib.hid (show a < (a + b) / 2 ∧ (a + b) / 2 < b by omega)
  obtain ⟨mid, hmid⟩ : ∃ k : Nat, ((a : Int) + (b : Int)) / 2 = (k : Int) := ⟨(a + b) / 2, by omega⟩
  obtain ⟨hma, hmb2⟩ : a < mid ∧ mid < b := by omega
  have hmid2 : 2 * mid ≤ a + b ∧ a + b ≤ 2 * mid + 1 := by omega
  obtain ⟨d1, hd1⟩ : ∃ x : Nat, (m : Int) - (a : Int) = (x : Int) := ⟨m - a, by omega⟩
  have hd1w : IntKind.i64.wrap (d1 : Int) = d1 := by rw [IntKind.wrap_i64]; omega
  obtain ⟨d2, hd2⟩ : ∃ x : Nat, (b : Int) - (m : Int) = (x : Int) := ⟨b - m, by omega⟩
  have hd2w : IntKind.i64.wrap (d2 : Int) = d2 := by rw [IntKind.wrap_i64]; omega
  obtain ⟨N, hN⟩ : ∃ x : Nat, (mid : Int) + (m : Int) = (x : Int) := ⟨mid + m, by omega⟩
  have hNw : IntKind.i64.wrap (N : Int) = N := by rw [IntKind.wrap_i64]; omega
  have hq1 : ((d1 : Int) == 1) = false := by rw [beq_eq_false_iff_ne]; omega
  have hq1' : (d1 == 1) = false := by rw [beq_eq_false_iff_ne]; omega
  have hq1n : ¬ d1 = 1 := by omega
  have hq2 : ((d2 : Int) == 1) = false := by rw [beq_eq_false_iff_ne]; omega
  have hq2' : (d2 == 1) = false := by rw [beq_eq_false_iff_ne]; omega
  have hq2n : ¬ d2 = 1 := by omega
  clear h1 h2
  go_upto_if 140 with fail
  go_cut [20, 21] (fun sa sb wx => ∃ s r : Nat, sa = .int .i64 (s : Int) ∧ sb = .int .i64 (r : Int) ∧ ((s ≤ r ∧ a ≤ s ∧ r ≤ m ∧ r ≤ mid ∧ N ≤ b + s) ∧ (s = a ∨ N = b + s) ∧ (r = m ∨ N = m + r)) ∧ Sl wx lo hi 9 1 (some ⟨g, 0, none⟩) n c (strs (row (f) n)) ∧ Only g (g + 1) w0 wx)
  case first => as_aux_lemma =>
    by_cases hgt : mid < m
    · skip
      obtain ⟨s0, hs0⟩ : ∃ x : Nat, (N : Int) - (b : Int) = (x : Int) := ⟨N - b, by omega⟩
      have hs0w : IntKind.i64.wrap (s0 : Int) = s0 := by rw [IntKind.wrap_i64]; omega
      go_wp2_with fail
      go_meet
      exact ⟨s0, mid, rfl, rfl, ⟨⟨by omega, by omega, by omega, by omega, by omega⟩, by omega, by omega⟩, HH.out, HO0.out⟩
    · have hgt' : decide (mid < m) = false := decide_eq_false hgt
      go_wp2_with fail
      go_meet
      exact ⟨a, m, rfl, rfl, ⟨⟨by omega, by omega, by omega, by omega, by omega⟩, by omega, by omega⟩, HH.out, HO0.out⟩
  case rest => as_aux_lemma =>
    obtain ⟨s0, r0, rfl, rfl, ⟨⟨c1, c2, c3, c4, c5⟩, c6, c7⟩, hsl, ho⟩ := hcut
    have HSL0 := Lib.hid hsl
    have HO0' := Lib.hid ho
    clear hsl ho HH HO0 hd1 hd2 hd1w hd2w hq1 hq1' hq1n hq2 hq2' hq2n
    obtain ⟨p, hp⟩ : ∃ x : Nat, (N : Int) - 1 = (x : Int) := ⟨N - 1, by omega⟩
    have hpw : IntKind.i64.wrap (p : Int) = p := by rw [IntKind.wrap_i64]; omega
    go_wp2
    go_loopw [20, 21] (fun sa sb wr => ∃ s r : Nat, s0 ≤ s ∧ s ≤ r ∧ r ≤ r0 ∧ sa = .int .i64 (s : Int) ∧ sb = .int .i64 (r : Int) ∧ Sl wr lo hi 9 1 (some ⟨g, 0, none⟩) n c (strs (row (f) n)) ∧ (s = s0 ∨ (fun x y => decide (cf x y < 0)) (f (N - s)) (f (s - 1)) = false) ∧ (r = r0 ∨ (fun x y => decide (cf x y < 0)) (f (N - 1 - r)) (f r) = true) ∧ Only g (g + 1) w0 wr) (fun sa sb _ => (intOf sb - intOf sa).toNat)
    case atStart => exact ⟨s0, r0, Nat.le_refl _, c1, Nat.le_refl _, rfl, rfl, HSL0.out, Or.inl rfl, Or.inl rfl, HO0'.out⟩
    case round =>
      obtain ⟨s, r, hs0, hsr, hr0, rfl, rfl, hsl, hil, hjl, ho⟩ := hrel
      have HSL := Lib.hid hsl
      have HO := Lib.hid ho
      have HI := Lib.hid hil
      have HJ := Lib.hid hjl
      clear hsl ho hil hjl HSL0 HO0'
      by_cases hlt : s < r
      · obtain ⟨k, hk⟩ : ∃ k : Nat, ((s : Int) + (r : Int)) / 2 = (k : Int) := ⟨(s + r) / 2, by omega⟩
        have hk1 : s ≤ k := by omega
        have hk2 : k < r := by omega
        obtain ⟨pk, hpk⟩ : ∃ x : Nat, (p : Int) - (k : Int) = (x : Int) := ⟨p - k, by omega⟩
        have hpkw : IntKind.i64.wrap (pk : Int) = pk := by rw [IntKind.wrap_i64]; omega
        have hx0 : (0 : Int) ≤ pk := by omega
        have hx1 : (pk : Int) < n := by omega
        have hy0 : (0 : Int) ≤ k := by omega
        have hy1 : (k : Int) < n := by omega
        have HVX := Lib.hid (show f pk = f pk from rfl)
        have HVY := Lib.hid (show f k = f k from rfl)
        by_cases hc : cf (f pk) (f k) < 0
        · as_aux_lemma =>
            have HSd := Lib.hid (show Sl wr.drew lo hi 9 1 (some ⟨g, 0, none⟩) n c (strs (row (f) n)) from HSL.out.keep fun _ _ _ _ => rfl)
            have HOd := Lib.hid (show Only g (g + 1) w0 wr.drew from ⟨HO.out.os, HO.out.tape, HO.out.output, HO.out.size, HO.out.block⟩)
            have cxd : wr.drew.cell? ⟨g, pk, none⟩ = some (.string (f pk)) := (HSd.out.cellAt pk (by omega)).trans ((strs_row_get (by omega)).trans (by rw [HVX.out]))
            have cyd : wr.drew.cell? ⟨g, k, none⟩ = some (.string (f k)) := (HSd.out.cellAt k (by omega)).trans ((strs_row_get (by omega)).trans (by rw [HVY.out]))
            go_wp2_with fail
            refine wp_region_held_drew (S := (fun W => W.cell? ⟨g, pk, none⟩ = some (.string (f pk)) ∧ W.cell? ⟨g, k, none⟩ = some (.string (f k)))) (by kernel_rfl) ?_ (fun hHeld => ?_)
            · exact ⟨cxd, cyd⟩
            refine wpAnyH_take (i := 0) (v := ?_) rfl (by kernel_rfl) (by kernel_rfl) (by kernel_rfl) (fun _ _ _ h => h) (Or.inl ⟨by kernel_rfl, ?_⟩) (by assumption) ?_
            rotate_left 1
            · intro w hSw; (try dsimp only at hSw); go_simp; try with_reducible rfl
            try simp only [Act.put, List.getElem_toArray, List.getElem_cons_succ, List.getElem_cons_zero, List.setIfInBounds_toArray, List.set_cons_zero, List.set_cons_succ]
            refine wpAnyH_take (i := 1) (v := ?_) rfl (by kernel_rfl) (by kernel_rfl) (by kernel_rfl) (fun _ _ _ h => h) (Or.inl ⟨by kernel_rfl, ?_⟩) (by assumption) ?_
            rotate_left 1
            · intro w hSw; (try dsimp only at hSw); go_simp; try with_reducible rfl
            try simp only [Act.put, List.getElem_toArray, List.getElem_cons_succ, List.getElem_cons_zero, List.setIfInBounds_toArray, List.set_cons_zero, List.set_cons_succ]
            refine wpAnyH_take (i := 2) (v := ?_) rfl (by kernel_rfl) (by kernel_rfl) (by kernel_rfl) (fun _ _ _ h => h) (Or.inl ⟨by kernel_rfl, ?_⟩) (by assumption) ?_
            rotate_left 1
            · intro w hSw; (try dsimp only at hSw); go_simp; try with_reducible rfl
            try simp only [Act.put, List.getElem_toArray, List.getElem_cons_succ, List.getElem_cons_zero, List.setIfInBounds_toArray, List.set_cons_zero, List.set_cons_succ]
            refine wpAnyH_take (i := 3) (v := ?_) rfl (by kernel_rfl) (by kernel_rfl) (by kernel_rfl) (fun _ _ _ h => h) (Or.inl ⟨by kernel_rfl, ?_⟩) (by assumption) ?_
            rotate_left 1
            · intro w hSw; (try dsimp only at hSw); go_simp; try with_reducible rfl
            try simp only [Act.put, List.getElem_toArray, List.getElem_cons_succ, List.getElem_cons_zero, List.setIfInBounds_toArray, List.set_cons_zero, List.set_cons_succ]
            refine wpAnyH_take (i := 4) (v := ?_) rfl (by kernel_rfl) (by kernel_rfl) (by kernel_rfl) (fun _ _ _ h => h) (Or.inl ⟨by kernel_rfl, ?_⟩) (by assumption) ?_
            rotate_left 1
            · intro w hSw; (try dsimp only at hSw); go_simp; try with_reducible rfl
            try simp only [Act.put, List.getElem_toArray, List.getElem_cons_succ, List.getElem_cons_zero, List.setIfInBounds_toArray, List.set_cons_zero, List.set_cons_succ]
            refine wpAnyH_take (i := 5) (v := ?_) rfl (by kernel_rfl) (by kernel_rfl) (by kernel_rfl) (fun _ _ _ h => h) (Or.inl ⟨by kernel_rfl, ?_⟩) (by assumption) ?_
            rotate_left 1
            · intro w hSw; (try dsimp only at hSw); go_simp; try with_reducible rfl
            try simp only [Act.put, List.getElem_toArray, List.getElem_cons_succ, List.getElem_cons_zero, List.setIfInBounds_toArray, List.set_cons_zero, List.set_cons_succ]
            refine wpAnyH_take (i := 6) (v := ?_) rfl (by kernel_rfl) (by kernel_rfl) (by kernel_rfl) (fun _ _ _ h => h) (Or.inl ⟨by kernel_rfl, ?_⟩) (by assumption) ?_
            rotate_left 1
            · intro w hSw; (try dsimp only at hSw); (have l1 := hSw.1); (have l2 := hSw.2); go_simp; try with_reducible rfl
            try simp only [Act.put, List.getElem_toArray, List.getElem_cons_succ, List.getElem_cons_zero, List.setIfInBounds_toArray, List.set_cons_zero, List.set_cons_succ]
            refine wpAnyH_take (i := 7) (v := ?_) rfl (by kernel_rfl) (by kernel_rfl) (by kernel_rfl) (fun _ _ _ h => h) (Or.inl ⟨by kernel_rfl, ?_⟩) (by assumption) ?_
            rotate_left 1
            · intro w hSw; (try dsimp only at hSw); go_simp; try with_reducible rfl
            try simp only [Act.put, List.getElem_toArray, List.getElem_cons_succ, List.getElem_cons_zero, List.setIfInBounds_toArray, List.set_cons_zero, List.set_cons_succ]
            refine wpAnyH_take (i := 8) (v := ?_) rfl (by kernel_rfl) (by kernel_rfl) (by kernel_rfl) (fun _ _ _ h => h) (Or.inl ⟨by kernel_rfl, ?_⟩) (by assumption) ?_
            rotate_left 1
            · intro w hSw; (try dsimp only at hSw); go_simp; try with_reducible rfl
            try simp only [Act.put, List.getElem_toArray, List.getElem_cons_succ, List.getElem_cons_zero, List.setIfInBounds_toArray, List.set_cons_zero, List.set_cons_succ]
            refine wpAnyH_take (i := 9) (v := ?_) rfl (by kernel_rfl) (by kernel_rfl) (by kernel_rfl) (fun _ _ _ h => h) (Or.inl ⟨by kernel_rfl, ?_⟩) (by assumption) ?_
            rotate_left 1
            · intro w hSw; (try dsimp only at hSw); go_simp; try with_reducible rfl
            try simp only [Act.put, List.getElem_toArray, List.getElem_cons_succ, List.getElem_cons_zero, List.setIfInBounds_toArray, List.set_cons_zero, List.set_cons_succ]
            refine wpAnyH_take (i := 10) (v := ?_) rfl (by kernel_rfl) (by kernel_rfl) (by kernel_rfl) (fun _ _ _ h => h) (Or.inl ⟨by kernel_rfl, ?_⟩) (by assumption) ?_
            rotate_left 1
            · intro w hSw; (try dsimp only at hSw); (have l1 := hSw.1); (have l2 := hSw.2); go_simp; try with_reducible rfl
            try simp only [Act.put, List.getElem_toArray, List.getElem_cons_succ, List.getElem_cons_zero, List.setIfInBounds_toArray, List.set_cons_zero, List.set_cons_succ]
            refine wpAnyH_ready (rs := [11]) (by kernel_rfl) (by simp) ?_
            refine AllReadyH.cons rfl (fun K hK => ?_) AllReadyH.nil
            go_simp
            refine (HC.out _ _ _ HOd.out).mono ?_
            rintro e w1 ⟨rfl, b1⟩
            have HO1 := Lib.hid (HOd.out.then b1 HOd.out.size)
            have HS1 := Lib.hid (HSd.out.on b1)
            have cx1 := cell_on b1 cxd
            have cy1 := cell_on b1 cyd
            have z1 := b1.size
            clear b1
            go_wp2_with fail
            refine hK.out _ _ ?_ (fun hNew => ?_)
            · exact ⟨cx1, cy1⟩
            clear hK K hHeld
            have hHeld := hNew
            clear hNew
            try simp only [Act.put, List.getElem_toArray, List.getElem_cons_succ, List.getElem_cons_zero, List.setIfInBounds_toArray, List.set_cons_zero, List.set_cons_succ]
            refine wpAnyH_take (i := 12) (v := ?_) rfl (by kernel_rfl) (by kernel_rfl) (by kernel_rfl) (fun _ _ _ h => h) (Or.inl ⟨by kernel_rfl, ?_⟩) (by assumption) ?_
            rotate_left 1
            · intro w hSw; (try dsimp only at hSw); go_simp; try with_reducible rfl
            try simp only [Act.put, List.getElem_toArray, List.getElem_cons_succ, List.getElem_cons_zero, List.setIfInBounds_toArray, List.set_cons_zero, List.set_cons_succ]
            refine wpAnyH_take (i := 13) (v := ?_) rfl (by kernel_rfl) (by kernel_rfl) (by kernel_rfl) (fun _ _ _ h => h) (Or.inl ⟨by kernel_rfl, ?_⟩) (by assumption) ?_
            rotate_left 1
            · intro w hSw; (try dsimp only at hSw); go_simp; try with_reducible rfl
            try simp only [Act.put, List.getElem_toArray, List.getElem_cons_succ, List.getElem_cons_zero, List.setIfInBounds_toArray, List.set_cons_zero, List.set_cons_succ]
            refine wpAnyH_done (by kernel_rfl) ?_ _
            go_wp2
            go_roundw
            case rel => exact ⟨s, k, by omega, by omega, by omega, rfl, (by first | rfl | go_num | (congr 1; omega)), HS1.out, HI.out, Or.inr (by rw [show N - 1 - k = pk by omega]; exact lt_yes hc), HO1.out⟩
            case measure => simp [intOf]; omega
        · have hc1 : decide (cf (f pk) (f k) < 0) = false := decide_eq_false hc
          as_aux_lemma =>
            have HSd := Lib.hid (show Sl wr.drew lo hi 9 1 (some ⟨g, 0, none⟩) n c (strs (row (f) n)) from HSL.out.keep fun _ _ _ _ => rfl)
            have HOd := Lib.hid (show Only g (g + 1) w0 wr.drew from ⟨HO.out.os, HO.out.tape, HO.out.output, HO.out.size, HO.out.block⟩)
            have cxd : wr.drew.cell? ⟨g, pk, none⟩ = some (.string (f pk)) := (HSd.out.cellAt pk (by omega)).trans ((strs_row_get (by omega)).trans (by rw [HVX.out]))
            have cyd : wr.drew.cell? ⟨g, k, none⟩ = some (.string (f k)) := (HSd.out.cellAt k (by omega)).trans ((strs_row_get (by omega)).trans (by rw [HVY.out]))
            go_wp2_with fail
            refine wp_region_held_drew (S := (fun W => W.cell? ⟨g, pk, none⟩ = some (.string (f pk)) ∧ W.cell? ⟨g, k, none⟩ = some (.string (f k)))) (by kernel_rfl) ?_ (fun hHeld => ?_)
            · exact ⟨cxd, cyd⟩
            refine wpAnyH_take (i := 0) (v := ?_) rfl (by kernel_rfl) (by kernel_rfl) (by kernel_rfl) (fun _ _ _ h => h) (Or.inl ⟨by kernel_rfl, ?_⟩) (by assumption) ?_
            rotate_left 1
            · intro w hSw; (try dsimp only at hSw); go_simp; try with_reducible rfl
            try simp only [Act.put, List.getElem_toArray, List.getElem_cons_succ, List.getElem_cons_zero, List.setIfInBounds_toArray, List.set_cons_zero, List.set_cons_succ]
            refine wpAnyH_take (i := 1) (v := ?_) rfl (by kernel_rfl) (by kernel_rfl) (by kernel_rfl) (fun _ _ _ h => h) (Or.inl ⟨by kernel_rfl, ?_⟩) (by assumption) ?_
            rotate_left 1
            · intro w hSw; (try dsimp only at hSw); go_simp; try with_reducible rfl
            try simp only [Act.put, List.getElem_toArray, List.getElem_cons_succ, List.getElem_cons_zero, List.setIfInBounds_toArray, List.set_cons_zero, List.set_cons_succ]
            refine wpAnyH_take (i := 2) (v := ?_) rfl (by kernel_rfl) (by kernel_rfl) (by kernel_rfl) (fun _ _ _ h => h) (Or.inl ⟨by kernel_rfl, ?_⟩) (by assumption) ?_
            rotate_left 1
            · intro w hSw; (try dsimp only at hSw); go_simp; try with_reducible rfl
            try simp only [Act.put, List.getElem_toArray, List.getElem_cons_succ, List.getElem_cons_zero, List.setIfInBounds_toArray, List.set_cons_zero, List.set_cons_succ]
            refine wpAnyH_take (i := 3) (v := ?_) rfl (by kernel_rfl) (by kernel_rfl) (by kernel_rfl) (fun _ _ _ h => h) (Or.inl ⟨by kernel_rfl, ?_⟩) (by assumption) ?_
            rotate_left 1
            · intro w hSw; (try dsimp only at hSw); go_simp; try with_reducible rfl
            try simp only [Act.put, List.getElem_toArray, List.getElem_cons_succ, List.getElem_cons_zero, List.setIfInBounds_toArray, List.set_cons_zero, List.set_cons_succ]
            refine wpAnyH_take (i := 4) (v := ?_) rfl (by kernel_rfl) (by kernel_rfl) (by kernel_rfl) (fun _ _ _ h => h) (Or.inl ⟨by kernel_rfl, ?_⟩) (by assumption) ?_
            rotate_left 1
            · intro w hSw; (try dsimp only at hSw); go_simp; try with_reducible rfl
            try simp only [Act.put, List.getElem_toArray, List.getElem_cons_succ, List.getElem_cons_zero, List.setIfInBounds_toArray, List.set_cons_zero, List.set_cons_succ]
            refine wpAnyH_take (i := 5) (v := ?_) rfl (by kernel_rfl) (by kernel_rfl) (by kernel_rfl) (fun _ _ _ h => h) (Or.inl ⟨by kernel_rfl, ?_⟩) (by assumption) ?_
            rotate_left 1
            · intro w hSw; (try dsimp only at hSw); go_simp; try with_reducible rfl
            try simp only [Act.put, List.getElem_toArray, List.getElem_cons_succ, List.getElem_cons_zero, List.setIfInBounds_toArray, List.set_cons_zero, List.set_cons_succ]
            refine wpAnyH_take (i := 6) (v := ?_) rfl (by kernel_rfl) (by kernel_rfl) (by kernel_rfl) (fun _ _ _ h => h) (Or.inl ⟨by kernel_rfl, ?_⟩) (by assumption) ?_
            rotate_left 1
            · intro w hSw; (try dsimp only at hSw); (have l1 := hSw.1); (have l2 := hSw.2); go_simp; try with_reducible rfl
            try simp only [Act.put, List.getElem_toArray, List.getElem_cons_succ, List.getElem_cons_zero, List.setIfInBounds_toArray, List.set_cons_zero, List.set_cons_succ]
            refine wpAnyH_take (i := 7) (v := ?_) rfl (by kernel_rfl) (by kernel_rfl) (by kernel_rfl) (fun _ _ _ h => h) (Or.inl ⟨by kernel_rfl, ?_⟩) (by assumption) ?_
            rotate_left 1
            · intro w hSw; (try dsimp only at hSw); go_simp; try with_reducible rfl
            try simp only [Act.put, List.getElem_toArray, List.getElem_cons_succ, List.getElem_cons_zero, List.setIfInBounds_toArray, List.set_cons_zero, List.set_cons_succ]
            refine wpAnyH_take (i := 8) (v := ?_) rfl (by kernel_rfl) (by kernel_rfl) (by kernel_rfl) (fun _ _ _ h => h) (Or.inl ⟨by kernel_rfl, ?_⟩) (by assumption) ?_
            rotate_left 1
            · intro w hSw; (try dsimp only at hSw); go_simp; try with_reducible rfl
            try simp only [Act.put, List.getElem_toArray, List.getElem_cons_succ, List.getElem_cons_zero, List.setIfInBounds_toArray, List.set_cons_zero, List.set_cons_succ]
            refine wpAnyH_take (i := 9) (v := ?_) rfl (by kernel_rfl) (by kernel_rfl) (by kernel_rfl) (fun _ _ _ h => h) (Or.inl ⟨by kernel_rfl, ?_⟩) (by assumption) ?_
            rotate_left 1
            · intro w hSw; (try dsimp only at hSw); go_simp; try with_reducible rfl
            try simp only [Act.put, List.getElem_toArray, List.getElem_cons_succ, List.getElem_cons_zero, List.setIfInBounds_toArray, List.set_cons_zero, List.set_cons_succ]
            refine wpAnyH_take (i := 10) (v := ?_) rfl (by kernel_rfl) (by kernel_rfl) (by kernel_rfl) (fun _ _ _ h => h) (Or.inl ⟨by kernel_rfl, ?_⟩) (by assumption) ?_
            rotate_left 1
            · intro w hSw; (try dsimp only at hSw); (have l1 := hSw.1); (have l2 := hSw.2); go_simp; try with_reducible rfl
            try simp only [Act.put, List.getElem_toArray, List.getElem_cons_succ, List.getElem_cons_zero, List.setIfInBounds_toArray, List.set_cons_zero, List.set_cons_succ]
            refine wpAnyH_ready (rs := [11]) (by kernel_rfl) (by simp) ?_
            refine AllReadyH.cons rfl (fun K hK => ?_) AllReadyH.nil
            go_simp
            refine (HC.out _ _ _ HOd.out).mono ?_
            rintro e w1 ⟨rfl, b1⟩
            have HO1 := Lib.hid (HOd.out.then b1 HOd.out.size)
            have HS1 := Lib.hid (HSd.out.on b1)
            have cx1 := cell_on b1 cxd
            have cy1 := cell_on b1 cyd
            have z1 := b1.size
            clear b1
            go_wp2_with fail
            refine hK.out _ _ ?_ (fun hNew => ?_)
            · exact ⟨cx1, cy1⟩
            clear hK K hHeld
            have hHeld := hNew
            clear hNew
            try simp only [Act.put, List.getElem_toArray, List.getElem_cons_succ, List.getElem_cons_zero, List.setIfInBounds_toArray, List.set_cons_zero, List.set_cons_succ]
            refine wpAnyH_take (i := 12) (v := ?_) rfl (by kernel_rfl) (by kernel_rfl) (by kernel_rfl) (fun _ _ _ h => h) (Or.inl ⟨by kernel_rfl, ?_⟩) (by assumption) ?_
            rotate_left 1
            · intro w hSw; (try dsimp only at hSw); go_simp; try with_reducible rfl
            try simp only [Act.put, List.getElem_toArray, List.getElem_cons_succ, List.getElem_cons_zero, List.setIfInBounds_toArray, List.set_cons_zero, List.set_cons_succ]
            refine wpAnyH_take (i := 13) (v := ?_) rfl (by kernel_rfl) (by kernel_rfl) (by kernel_rfl) (fun _ _ _ h => h) (Or.inl ⟨by kernel_rfl, ?_⟩) (by assumption) ?_
            rotate_left 1
            · intro w hSw; (try dsimp only at hSw); go_simp; try with_reducible rfl
            try simp only [Act.put, List.getElem_toArray, List.getElem_cons_succ, List.getElem_cons_zero, List.setIfInBounds_toArray, List.set_cons_zero, List.set_cons_succ]
            refine wpAnyH_done (by kernel_rfl) ?_ _
            go_wp2
            go_roundw
            case rel => exact ⟨k + 1, r, by omega, by omega, by omega, (by first | rfl | go_num | (congr 1; omega)), rfl, HS1.out, Or.inr (by rw [Nat.add_sub_cancel, show N - (k + 1) = pk by omega]; exact lt_no (by omega)), HJ.out, HO1.out⟩
            case measure => simp [intOf]; omega
      · obtain rfl : s = r := by omega
        obtain ⟨e, he⟩ : ∃ x : Nat, (N : Int) - (s : Int) = (x : Int) := ⟨N - s, by omega⟩
        have hew : IntKind.i64.wrap (e : Int) = e := by rw [IntKind.wrap_i64]; omega
        have HHV := Lib.hid (show Halves R S (rota f s m e) a s mid e b from halves hord (by omega) (by omega) (by omega) (by omega) (by omega) HS1f.out HS2.out HCR.out (by
          rcases HI.out with q | q
          · omega
          · exact Or.inr (Or.inr (by rw [show e = N - s by omega]; exact q))) (by
          rcases HJ.out with q | q
          · omega
          · exact Or.inr (Or.inr (by rw [show e - 1 = N - 1 - s by omega]; exact q))))
        have hsm : s ≤ m := by omega
        have hme : m ≤ e := by omega
        have heb : e ≤ b := by omega
        have has : a ≤ s := by omega
        have hsmid : s ≤ mid := by omega
        have hmide : mid ≤ e := by omega
        have HTR := Lib.hid ((rota_turned' f hsm hme (show e ≤ n by omega)).wide has heb)
        clear HI HJ hlt c1 c2 c3 c4 c5 c6 c7
        go_upto_region 39 with fail
        go_cut [185] (fun sv wx => ∃ z : Bool, sv = .bool z ∧ (z = true → s < m ∧ m < e) ∧ (z = false → ¬ (s < m ∧ m < e)) ∧ Sl wx lo hi 9 1 (some ⟨g, 0, none⟩) n c (strs (row (f) n)) ∧ Only g (g + 1) w0 wx)
        case first => as_aux_lemma =>
          by_cases h5 : s < m
          · by_cases h6 : m < e
            · go_wp2_with fail
              go_meet
              exact ⟨true, (by simp [h5, h6]), fun _ => ⟨h5, h6⟩, (fun q => by cases q), HSL.out, HO.out⟩
            · have h6' : decide (m < e) = false := decide_eq_false h6
              go_wp2_with fail
              go_meet
              exact ⟨false, (by simp [h6]), (fun q => by cases q), fun _ q => h6 q.2, HSL.out, HO.out⟩
          · have h5' : decide (s < m) = false := decide_eq_false h5
            go_wp2_with fail
            go_meet
            exact ⟨false, (by simp [h5]), (fun q => by cases q), fun _ q => h5 q.1, HSL.out, HO.out⟩
        case rest => as_aux_lemma =>
          obtain ⟨z, rfl, hz1, hz2, hsl, ho⟩ := hcut
          have HSL := Lib.hid hsl
          have HO := Lib.hid ho
          have HZ1 := Lib.hid hz1
          have HZ2 := Lib.hid hz2
          clear hsl ho hz1 hz2
          go_upto_if 185 with fail
          go_cut [] (fun wx => Sl wx lo hi 9 1 (some ⟨g, 0, none⟩) n c (strs (row (rota f s m e) n)) ∧ Only g (g + 1) w0 wx)
          case first => as_aux_lemma =>
            rcases z with _ | _
            · have hno := HZ2.out rfl
              go_wp2_with fail
              go_meet
              exact ⟨by rw [rota_nil f s m e (by omega) hsm hme]; exact HSL.out, HO.out⟩
            · obtain ⟨h5, h6⟩ := HZ1.out rfl
              go_wp2_with fail
              refine (rotate_any g n c lo hi s m e f _ _ HSL.out h5 h6 (by omega) hn).mono ?_
              rintro q w1 ⟨rfl, sl1, o1⟩
              have HS1 := Lib.hid sl1
              have HO1 := Lib.hid (HO.out.trans o1)
              clear sl1 o1
              go_wp2_with fail
              go_meet
              exact ⟨HS1.out, HO1.out⟩
          case rest => as_aux_lemma =>
            obtain ⟨hsl, ho⟩ := hcut
            replace HSL := Lib.hid hsl
            replace HO := Lib.hid ho
            clear hsl ho HZ1 HZ2
            obtain ⟨f1, hf1⟩ : ∃ y, rota f s m e = y := ⟨_, rfl⟩
            rw [hf1] at HSL HHV HTR
            clear hf1
            go_upto_region 41 with fail
            go_cut [199] (fun sv wx => ∃ z : Bool, sv = .bool z ∧ (z = true → a < s ∧ s < mid) ∧ (z = false → ¬ (a < s ∧ s < mid)) ∧ Sl wx lo hi 9 1 (some ⟨g, 0, none⟩) n c (strs (row (f1) n)) ∧ Only g (g + 1) w0 wx)
            case first => as_aux_lemma =>
              by_cases h5 : a < s
              · by_cases h6 : s < mid
                · go_wp2_with fail
                  go_meet
                  exact ⟨true, (by simp [h5, h6]), fun _ => ⟨h5, h6⟩, (fun q => by cases q), HSL.out, HO.out⟩
                · have h6' : decide (s < mid) = false := decide_eq_false h6
                  go_wp2_with fail
                  go_meet
                  exact ⟨false, (by simp [h6]), (fun q => by cases q), fun _ q => h6 q.2, HSL.out, HO.out⟩
              · have h5' : decide (a < s) = false := decide_eq_false h5
                go_wp2_with fail
                go_meet
                exact ⟨false, (by simp [h5]), (fun q => by cases q), fun _ q => h5 q.1, HSL.out, HO.out⟩
            case rest => as_aux_lemma =>
              obtain ⟨z, rfl, hz1, hz2, hsl, ho⟩ := hcut
              replace HSL := Lib.hid hsl
              replace HO := Lib.hid ho
              have HZ1 := Lib.hid hz1
              have HZ2 := Lib.hid hz2
              clear hsl ho hz1 hz2
              go_upto_if 199 with fail
              go_cut [] (fun wx => ∃ f2 : Nat → ByteArray, Sl wx lo hi 9 1 (some ⟨g, 0, none⟩) n c (strs (row (f2) n)) ∧ Turned f1 f2 a mid n ∧ Srt R f2 a mid ∧ Only g (g + 1) w0 wx)
              case first => as_aux_lemma =>
                rcases z with _ | _
                · have hno := HZ2.out rfl
                  go_wp2_with fail
                  go_meet
                  refine ⟨f1, HSL.out, Turned.refl _ _ _ _, ?_, HO.out⟩
                  by_cases h7 : a < s
                  · exact HHV.out.s1.sub (Nat.le_refl _) (by omega)
                  · exact HHV.out.s2.sub (by omega) (Nat.le_refl _)
                · obtain ⟨h5, h6⟩ := HZ1.out rfl
                  go_wp2_with fail
                  refine (IH.out a s mid f1 _ (by omega) h5 h6 (by omega) HSL.out HO.out HHV.out.s1 HHV.out.s2 HHV.out.c1).mono ?_
                  rintro q w1 ⟨rfl, f2, sl2, t2, r2, o2⟩
                  have HR := Lib.hid (⟨f2, sl2, t2, r2, o2⟩ : ∃ f2 : Nat → ByteArray, Sl w1 lo hi 9 1 (some ⟨g, 0, none⟩) n c (strs (row (f2) n)) ∧ Turned f1 f2 a mid n ∧ Srt R f2 a mid ∧ Only g (g + 1) w0 w1)
                  clear sl2 t2 r2 o2
                  go_wp2_with fail
                  go_meet
                  exact HR.out
              case rest => as_aux_lemma =>
                obtain ⟨f2, hsl, ht2, hr2, ho⟩ := hcut
                replace HSL := Lib.hid hsl
                replace HO := Lib.hid ho
                have HT2 := Lib.hid ht2
                have HR2 := Lib.hid hr2
                clear hsl ho ht2 hr2 HZ1 HZ2
                go_upto_region 43 with fail
                go_cut [213] (fun sv wx => ∃ z : Bool, sv = .bool z ∧ (z = true → mid < e ∧ e < b) ∧ (z = false → ¬ (mid < e ∧ e < b)) ∧ Sl wx lo hi 9 1 (some ⟨g, 0, none⟩) n c (strs (row (f2) n)) ∧ Only g (g + 1) w0 wx)
                case first => as_aux_lemma =>
                  by_cases h5 : mid < e
                  · by_cases h6 : e < b
                    · go_wp2_with fail
                      go_meet
                      exact ⟨true, (by simp [h5, h6]), fun _ => ⟨h5, h6⟩, (fun q => by cases q), HSL.out, HO.out⟩
                    · have h6' : decide (e < b) = false := decide_eq_false h6
                      go_wp2_with fail
                      go_meet
                      exact ⟨false, (by simp [h6]), (fun q => by cases q), fun _ q => h6 q.2, HSL.out, HO.out⟩
                  · have h5' : decide (mid < e) = false := decide_eq_false h5
                    go_wp2_with fail
                    go_meet
                    exact ⟨false, (by simp [h5]), (fun q => by cases q), fun _ q => h5 q.1, HSL.out, HO.out⟩
                case rest => as_aux_lemma =>
                  obtain ⟨z, rfl, hz1, hz2, hsl, ho⟩ := hcut
                  replace HSL := Lib.hid hsl
                  replace HO := Lib.hid ho
                  have HZ1 := Lib.hid hz1
                  have HZ2 := Lib.hid hz2
                  clear hsl ho hz1 hz2
                  as_aux_lemma =>
                    rcases z with _ | _
                    · have hno := HZ2.out rfl
                      have HF := Lib.hid (show ∃ f' : Nat → ByteArray, Sl wc lo hi 9 1 (some ⟨g, 0, none⟩) n c (strs (row (f') n)) ∧ Turned f f' a b n ∧ Srt R f' a b ∧ Only g (g + 1) w0 wc from ⟨f2, HSL.out, HTR.out.trans (HT2.out.wide (Nat.le_refl _) (by omega)), halves_join HHV.out HT2.out HR2.out (Turned.refl _ _ _ _) (by
                        by_cases h7 : mid < e
                        · exact (HT2.out.srt_out HHV.out.s3 (Or.inr (Nat.le_refl _))).sub (Nat.le_refl _) (by omega)
                        · exact (HT2.out.srt_out HHV.out.s4 (Or.inr hmide)).sub (by omega) (Nat.le_refl _)), HO.out⟩)
                      go_wp2
                      go_end0
                      exact ⟨rfl, HF.out⟩
                    · obtain ⟨h5, h6⟩ := HZ1.out rfl
                      go_wp2_with fail
                      refine (IH.out mid e b f2 _ (by omega) h5 h6 (by omega) HSL.out HO.out (HT2.out.srt_out HHV.out.s3 (Or.inr (Nat.le_refl _))) (HT2.out.srt_out HHV.out.s4 (Or.inr hmide)) (HT2.out.crs_out HHV.out.c2 (by omega))).mono ?_
                      rintro q w1 ⟨rfl, f3, sl2, t3, r3, o2⟩
                      have HF := Lib.hid (show ∃ f' : Nat → ByteArray, Sl w1 lo hi 9 1 (some ⟨g, 0, none⟩) n c (strs (row (f') n)) ∧ Turned f f' a b n ∧ Srt R f' a b ∧ Only g (g + 1) w0 w1 from ⟨f3, sl2, HTR.out.trans ((HT2.out.wide (Nat.le_refl _) (by omega)).trans (t3.wide (by omega) (Nat.le_refl _))), halves_join HHV.out HT2.out HR2.out t3 r3, o2⟩)
                      clear sl2 t3 r3 o2
                      go_wp2
                      go_end0
                      exact ⟨rfl, HF.out⟩

theorem symMerge_any (g n c lo hi g2 g3 : Nat) (cf : ByteArray → ByteArray → Int) (R S : ByteArray → ByteArray → Prop) (w0 : World) (hn : n ≤ 1000000000) (hc : CmpAt w0 g g2 g3 cf) (hord : Ord3 (fun x y => decide (cf x y < 0)) R S) : ∀ (qq a m b : Nat) (f : Nat → ByteArray) (w : World), b - a ≤ qq → a < m → m < b → b ≤ n → Sl w lo hi 9 1 (some ⟨g, 0, none⟩) n c (strs (row (f) n)) → Only g (g + 1) w0 w → Srt R f a m → Srt R f m b → Crs S f a m b → Calls Tryz.prog 181 #[.slice (some ⟨g, 0, none⟩) n c, .int .i64 (a : Int), .int .i64 (m : Int), .int .i64 (b : Int), .func (.func 78) #[] #[.pointer (some ⟨g2, 0, none⟩), .pointer (some ⟨g3, 0, none⟩)]] w fun e w' => e = .returned (.tuple #[]) ∧ ∃ f' : Nat → ByteArray, Sl w' lo hi 9 1 (some ⟨g, 0, none⟩) n c (strs (row (f') n)) ∧ Turned f f' a b n ∧ Srt R f' a b ∧ Only g (g + 1) w0 w' := by
  intro qq
  induction qq with
  | zero => intro a m b f w hqq ham hmb; omega
  | succ qq ih =>
    intro a m b f w hqq ham hmb hb h ho hs1 hs2 hcr
    by_cases h1 : m - a = 1
    · exact symMerge_left g n c lo hi g2 g3 cf R S w0 hn hc hord a m b f w ham hmb hb h ho hs1 hs2 hcr h1
    · by_cases h2 : b - m = 1
      · exact symMerge_right g n c lo hi g2 g3 cf R S w0 hn hc hord a m b f w ham hmb hb h ho hs1 hs2 hcr h1 h2
      · exact symMerge_both g n c lo hi g2 g3 cf R S w0 hn hc hord qq ih a m b f w ham hmb hb h ho hs1 hs2 hcr hqq h1 h2

end Go.Proofs.YtjmlcobbjpmjpaaGreatDoor
namespace Go.Proofs.YtjmlcobbjpmjpaaGreatDoor
open Go.RowKit Stb

set_option maxHeartbeats 4000000 in
set_option maxRecDepth 100000 in
theorem stable_any (g n c lo hi g2 g3 : Nat) (cf : ByteArray → ByteArray → Int) (R S : ByteArray → ByteArray → Prop) (w0 : World) (hn : n ≤ 100000000) (hc : CmpAt w0 g g2 g3 cf) (hord : Ord3 (fun x y => decide (cf x y < 0)) R S) (f : Nat → ByteArray) (w : World) (h : Sl w lo hi 9 1 (some ⟨g, 0, none⟩) n c (strs (row (f) n))) (ho : Only g (g + 1) w0 w) (hs : Srt S f 0 n) :
    Calls Tryz.prog 144 #[.slice (some ⟨g, 0, none⟩) n c, .int .i64 (n : Int), .func (.func 78) #[] #[.pointer (some ⟨g2, 0, none⟩), .pointer (some ⟨g3, 0, none⟩)]] w fun e w' => e = .returned (.tuple #[]) ∧ ∃ f' : Nat → ByteArray, Sl w' lo hi 9 1 (some ⟨g, 0, none⟩) n c (strs (row (f') n)) ∧ Turned f f' 0 n n ∧ Srt R f' 0 n ∧ Only g (g + 1) w0 w' := by
  have HC := Lib.hid hc
  have HH := Lib.hid h
  have HO0 := Lib.hid ho
  have HSS := Lib.hid hs
  clear hc h ho hs
  go_enter Tryz.func144, Tryz.ntmps144
  go_wp2
  go_loopw [7, 8] (fun p q wr => ∃ (a b : Nat) (f1 : Nat → ByteArray), p = .int .i64 (a : Int) ∧ q = .int .i64 (b : Int) ∧ b = a + 20 ∧ 20 ∣ a ∧ a ≤ n ∧ Sl wr lo hi 9 1 (some ⟨g, 0, none⟩) n c (strs (row (f1) n)) ∧ Ins R S f f1 a n ∧ Only g (g + 1) w0 wr) (fun p q _ => n + 20 - (intOf q).toNat)
  case atStart => exact ⟨0, 20, f, rfl, rfl, rfl, ⟨0, rfl⟩, Nat.zero_le _, HH.out, Ins.start HSS.out, HO0.out⟩
  case round =>
    obtain ⟨a, b, f1, rfl, rfl, hb, hda, han, hsl, hins, ho⟩ := hrel
    have HSL := Lib.hid hsl
    have HO := Lib.hid ho
    have HIN := Lib.hid hins
    have HDA := Lib.hid hda
    have HBA := Lib.hid hb
    clear hsl ho hins hda hb HH HO0
    by_cases hlt : b ≤ n
    · as_aux_lemma =>
        obtain ⟨b', hb'⟩ : ∃ x : Nat, (b : Int) + 20 = (x : Int) := ⟨b + 20, by omega⟩
        have hb'w : IntKind.i64.wrap (b' : Int) = b' := by rw [IntKind.wrap_i64]; omega
        go_wp2_with fail
        refine (insertion_any g n c lo hi a b g2 g3 f1 cf R S w0 _ HSL.out hlt han (by omega) HO.out HC.out hord (HIN.out.pre HSS.out hlt)).mono ?_
        rintro e w1 ⟨rfl, f2, sl2, t2, r2, o2⟩
        have HR := Lib.hid (show Sl w1 lo hi 9 1 (some ⟨g, 0, none⟩) n c (strs (row (f2) n)) ∧ Ins R S f f2 b n ∧ Only g (g + 1) w0 w1 by
          have hb := HBA.out
          subst hb
          exact ⟨sl2, HIN.out.step HDA.out hlt t2 r2, o2⟩)
        clear sl2 t2 r2 o2
        go_wp2
        go_roundw
        case rel => exact ⟨b, b', f2, rfl, rfl, by omega, by rw [HBA.out]; exact (Nat.dvd_add_right HDA.out).2 (Nat.dvd_refl 20), hlt, HR.out.1, HR.out.2.1, HR.out.2.2⟩
        case measure => simp [intOf]; omega
    · have hlt' : decide ((b : Int) ≤ (n : Int)) = false := decide_eq_false (by omega)
      have hlt2 : decide (b ≤ n) = false := decide_eq_false hlt
      go_wp2_with fail
      refine (insertion_any g n c lo hi a n g2 g3 f1 cf R S w0 _ HSL.out (Nat.le_refl _) han (by omega) HO.out HC.out hord (HIN.out.pre HSS.out (Nat.le_refl _))).mono ?_
      rintro e w1 ⟨rfl, f2, sl2, t2, r2, o2⟩
      have HR := Lib.hid (show Sl w1 lo hi 9 1 (some ⟨g, 0, none⟩) n c (strs (row (f2) n)) ∧ (Blks R S f2 20 n ∧ Turned f f2 0 n n) ∧ Only g (g + 1) w0 w1 from ⟨sl2, HIN.out.last HDA.out (by have := HBA.out; omega) han t2 r2, o2⟩)
      clear sl2 t2 r2 o2 HSL HO HIN HDA HBA hlt hlt' hlt2
      as_aux_lemma =>
        go_wp2
        rename World => wo
        go_loopw [6] (fun p wr => ∃ (B : Nat) (f2 : Nat → ByteArray), p = .int .i64 (B : Int) ∧ 0 < B ∧ Sl wr lo hi 9 1 (some ⟨g, 0, none⟩) n c (strs (row (f2) n)) ∧ Blks R S f2 B n ∧ Turned f f2 0 n n ∧ Only g (g + 1) w0 wr) (fun p _ => n - (intOf p).toNat)
        case atStart => exact ⟨20, f2, rfl, by omega, HR.out.1, HR.out.2.1.1, HR.out.2.1.2, HR.out.2.2⟩
        case round =>
          clear HR f2
          obtain ⟨B, f2, rfl, hB0, hsl, hbl, htu, ho⟩ := hrel
          have HSL := Lib.hid hsl
          have HO := Lib.hid ho
          have HBL := Lib.hid hbl
          have HTU := Lib.hid htu
          clear hsl ho hbl htu
          by_cases hlt : B < n
          · skip
            obtain ⟨C, hC⟩ : ∃ x : Nat, 2 * (B : Int) = (x : Int) := ⟨2 * B, by omega⟩
            have hCw : IntKind.i64.wrap (C : Int) = C := by rw [IntKind.wrap_i64]; omega
            have hC2 : (B : Int) * 2 = (C : Int) := by omega
            have HCB := Lib.hid (show C = 2 * B by omega)
            go_wp2
            rename World => wo2
            go_loopw [7, 8] (fun p q wr => ∃ (a b : Nat) (f3 : Nat → ByteArray), p = .int .i64 (a : Int) ∧ q = .int .i64 (b : Int) ∧ b = a + C ∧ 2 * B ∣ a ∧ a ≤ n ∧ Sl wr lo hi 9 1 (some ⟨g, 0, none⟩) n c (strs (row (f3) n)) ∧ Mrg R S f f3 B a n ∧ Only g (g + 1) w0 wr) (fun p q _ => n + C - (intOf q).toNat)
            case atStart => exact ⟨0, C, f2, rfl, rfl, by omega, ⟨0, rfl⟩, Nat.zero_le _, HSL.out, Mrg.start HBL.out HTU.out, HO.out⟩
            case round =>
              clear HSL HO HBL HTU f2
              obtain ⟨a, b, f3, rfl, rfl, hb, hda, han, hsl, hmr, ho⟩ := hrel
              have HSL := Lib.hid hsl
              have HO := Lib.hid ho
              have HMR := Lib.hid hmr
              have HDA := Lib.hid hda
              have HBA := Lib.hid hb
              have hab : a + C = b := hb.symm
              clear hsl ho hmr hda hb
              obtain ⟨m, hm⟩ : ∃ x : Nat, (a : Int) + (B : Int) = (x : Int) := ⟨a + B, by omega⟩
              have hmw : IntKind.i64.wrap (m : Int) = m := by rw [IntKind.wrap_i64]; omega
              have HM := Lib.hid (show m = a + B by omega)
              by_cases hbn : b ≤ n
              · as_aux_lemma =>
                  obtain ⟨b', hb'⟩ : ∃ x : Nat, (b : Int) + (C : Int) = (x : Int) := ⟨b + C, by omega⟩
                  have hb'w : IntKind.i64.wrap (b' : Int) = b' := by rw [IntKind.wrap_i64]; omega
                  have HB2 := Lib.hid (show b' = b + C by omega)
                  have hpre := HMR.out.pre (b := b) HDA.out (by have := HCB.out; omega) (by have := HCB.out; omega) hbn
                  rw [← HM.out] at hpre
                  have HP := Lib.hid hpre
                  have hma : a < m := by omega
                  have hmb : m < b := by have := HCB.out; omega
                  clear hpre hab
                  go_wp2_with fail
                  refine ((symMerge_any g n c lo hi g2 g3 cf R S w0 (by omega) HC.out hord (b - a) a m b f3 _ (Nat.le_refl _) hma hmb hbn HSL.out HO.out HP.out.1 HP.out.2.1 HP.out.2.2)).mono ?_
                  rintro e w1 ⟨rfl, f4, sl2, t2, r2, o2⟩
                  have HR := Lib.hid (show Sl w1 lo hi 9 1 (some ⟨g, 0, none⟩) n c (strs (row (f4) n)) ∧ Mrg R S f f4 B b n ∧ Only g (g + 1) w0 w1 by
                    have hb := HBA.out
                    rw [HCB.out] at hb
                    subst hb
                    exact ⟨sl2, HMR.out.step hB0 HDA.out hbn t2 r2, o2⟩)
                  clear sl2 t2 r2 o2
                  go_wp2
                  go_roundw
                  case rel => exact ⟨b, b', f4, rfl, rfl, HB2.out, by rw [HBA.out, HCB.out]; exact (Nat.dvd_add_right HDA.out).2 (Nat.dvd_refl _), hbn, HR.out.1, HR.out.2.1, HR.out.2.2⟩
                  case measure => have := HB2.out; simp [intOf]; omega
              · have hbn' : decide ((b : Int) ≤ (n : Int)) = false := decide_eq_false (by omega)
                have hbn2 : decide (b ≤ n) = false := decide_eq_false hbn
                by_cases hmn : m < n
                · as_aux_lemma =>
                    have hpre := HMR.out.pre (b := n) HDA.out (by omega) (by have := HCB.out; omega) (Nat.le_refl _)
                    rw [← HM.out] at hpre
                    have HP := Lib.hid hpre
                    have hma : a < m := by omega
                    clear hpre hab
                    go_wp2_with fail
                    refine ((symMerge_any g n c lo hi g2 g3 cf R S w0 (by omega) HC.out hord (n - a) a m n f3 _ (Nat.le_refl _) hma hmn (Nat.le_refl _) HSL.out HO.out HP.out.1 HP.out.2.1 HP.out.2.2)).mono ?_
                    rintro e w1 ⟨rfl, f4, sl2, t2, r2, o2⟩
                    have HR := Lib.hid (show Sl w1 lo hi 9 1 (some ⟨g, 0, none⟩) n c (strs (row (f4) n)) ∧ (Blks R S f4 C n ∧ Turned f f4 0 n n) ∧ Only g (g + 1) w0 w1 from ⟨sl2, by rw [HCB.out]; exact HMR.out.last HDA.out (by have := HCB.out; have := HBA.out; omega) han t2 r2, o2⟩)
                    clear sl2 t2 r2 o2
                    go_wp2
                    go_roundw
                    case rel => exact ⟨C, f4, rfl, by have := HCB.out; omega, HR.out.1, HR.out.2.1.1, HR.out.2.1.2, HR.out.2.2⟩
                    case measure => have := HCB.out; simp [intOf]; omega
                · as_aux_lemma =>
                    have hmn' : decide ((m : Int) < (n : Int)) = false := decide_eq_false (by omega)
                    have hmn2 : decide (m < n) = false := decide_eq_false hmn
                    have HR := Lib.hid (show Blks R S f3 C n ∧ Turned f f3 0 n n by rw [HCB.out]; exact HMR.out.last' hB0 HDA.out (by omega) han)
                    clear hab
                    go_wp2
                    go_roundw
                    case rel => exact ⟨C, f3, rfl, by have := HCB.out; omega, HSL.out, HR.out.1, HR.out.2, HO.out⟩
                    case measure => have := HCB.out; simp [intOf]; omega
          · have hlt' : decide ((B : Int) < (n : Int)) = false := decide_eq_false (by omega)
            have hlt2 : decide (B < n) = false := decide_eq_false hlt
            have HR := Lib.hid (show Srt R f2 0 n from (HBL.out.srt 0 ⟨0, rfl⟩).sub (Nat.le_refl _) (by omega))
            go_wp2
            go_end0
            exact ⟨rfl, f2, HSL.out, HTU.out, HR.out, HO.out⟩
theorem sortStable_any (g n c lo hi g2 g3 : Nat) (cf : ByteArray → ByteArray → Int) (R S : ByteArray → ByteArray → Prop) (w0 : World) (hn : n ≤ 100000000) (hc : CmpAt w0 g g2 g3 cf) (hord : Ord3 (fun x y => decide (cf x y < 0)) R S) (f : Nat → ByteArray) (w : World) (h : Sl w lo hi 9 1 (some ⟨g, 0, none⟩) n c (strs (row (f) n))) (ho : Only g (g + 1) w0 w) (hs : Srt S f 0 n) :
    Calls Tryz.prog 77 #[.slice (some ⟨g, 0, none⟩) n c, .func (.func 78) #[] #[.pointer (some ⟨g2, 0, none⟩), .pointer (some ⟨g3, 0, none⟩)]] w fun e w' => e = .returned (.tuple #[]) ∧ ∃ f' : Nat → ByteArray, Sl w' lo hi 9 1 (some ⟨g, 0, none⟩) n c (strs (row (f') n)) ∧ Turned f f' 0 n n ∧ Srt R f' 0 n ∧ Only g (g + 1) w0 w' := by
  go_enter Tryz.func77, Tryz.ntmps77
  go_wp2_with fail
  refine (stable_any g n c lo hi g2 g3 cf R S w0 hn hc hord f _ h ho hs).mono ?_
  rintro e w1 ⟨rfl, hh⟩
  have HH := Lib.hid hh
  clear hh
  go_wp2
  go_end0
  exact ⟨rfl, HH.out⟩
end Go.Proofs.YtjmlcobbjpmjpaaGreatDoor
