/- Clients: the tests of a list of clients. -/
import Derived.Test.YtnlghcpidlpfkaaClA
import Derived.Deep.QuietTactic
import Derived.Deep.RegionWith
import Derived.IntWalk
set_option linter.unusedVariables false
namespace Go.Proofs.Ytnlghcpidlpfkaa
open Go.RowKit

set_option maxHeartbeats 4000000 in
theorem l24Ok_any (A : Option Addr) (n c : Nat) (l : List Cl) (B : Nat) (w : World) (h : Reads w B 5 A n (cls l)) (hB : B ≤ w.heap.size) (hn : n ≤ 1048576) (hsm : ∀ x ∈ l, x.small) (hgd : ∀ x ∈ l, x.good) :
    Calls Try.prog 97 #[.slice A n c] w fun e w' => e = .returned (.bool (okCls l)) ∧ Below w.heap.size w w' := by
  have hl := Lib.hid (cls_len h)
  have HSM := Lib.hid hsm
  have HGD := Lib.hid hgd
  clear hsm hgd
  go_enter Try.func97, Try.ntmps97
  go_wp2
  go_loopw [3] (fun i wr => ∃ k : Nat, k ≤ n ∧ i = .int .i64 k ∧ AllTo (rowCl l) (List.range n) k ∧ Below w.heap.size w wr) (fun i _ => n - (intOf i).toNat)
  case atStart => exact ⟨0, Nat.zero_le _, rfl, AllTo.zero _ _, Below.refl _ _⟩
  case round =>
    obtain ⟨k, hk, rfl, hall, hbel⟩ := hrel
    have HA := Lib.hid hall
    have HBe := Lib.hid hbel
    clear hall
    by_cases hlt : k < n
    · obtain ⟨x, b, off, he, rfl, hb, c0, c1, c2, c3, c4⟩ := cl_at (h.on hB hbel) hlt
      have hs : x.name.size ≤ 9223372036854775807 := by have := HSM.out x (List.mem_of_getElem? he); unfold Cl.small at this; omega
      have hone : ∀ W, (∃ m, W = wr.drewN m) → Calls Try.prog 98 #[.pointer (some ⟨b, off + k * 5, none⟩)] W fun e w' => e = .returned (.bool (okCl x)) ∧ ∃ m, w' = W.drewN m := fun W ⟨m, hW⟩ => by subst hW; exact l24One_any x b _ _ hs (HGD.out x (List.mem_of_getElem? he)) c0 c1 c2 c3 c4
      have HE := Lib.hid he
      have hi0 : (0 : Int) ≤ k := by omega
      have hi1 : (k : Int) < n := by omega
      rcases hx : okCl x with _ | _
      · have HO := Lib.hid (show okCls l = false by simp only [okCls, all_bad (crange_at (show k < l.length by have := hl.out; omega)) (rowCl_bad HE.out hx), Bool.false_and])
        rw [hx] at hone
        have HOne := Lib.hid hone
        clear he hone h hbel c0 c1 c2 c3 c4 HE hx
        go_wp2_with fail
        go_quiet ((go_at_call 98; exact Calls.quiet_of (HOne.out _ ⟨_, rfl⟩)))
        go_wp2
        go_ret
        exact ⟨ret_bool HO.out.symm, below_drewN HBe.out _⟩
      · rw [hx] at hone
        have HOne := Lib.hid hone
        by_cases hk0 : k = 0
        · subst hk0
          have HR := Lib.hid (rowCl_zero HE.out hx)
          clear he hone h hbel c0 c1 c2 c3 c4 HE hx
          have hg0 : decide ((0 : Int) < ((0 : Nat) : Int)) = false := by decide
          go_wp2_with fail
          go_quiet ((go_at_call 98; exact Calls.quiet_of (HOne.out _ ⟨_, rfl⟩)))
          go_wp2
          go_roundw
          case rel => exact ⟨1, by omega, by go_num, HA.out.step (crange_at hlt) HR.out, below_drewN HBe.out _⟩
          case measure => simp [intOf]; omega
        · obtain ⟨j, rfl⟩ : ∃ j, k = j + 1 := ⟨k - 1, by omega⟩
          obtain ⟨y, b', off', hy, e2, hb', d0, d1, d2, d3, d4⟩ := cl_at (k := j) (h.on hB hbel) (by omega)
          injection e2 with e2; injection e2 with e2 e2'; subst e2; subst e2'
          have hj0 : (0 : Int) ≤ j := by omega
          have hj1 : (j : Int) < n := by omega
          have hj2 : (j : Int) + 1 < n := by omega
          have hg0 : decide ((0 : Int) < (j : Int) + 1) = true := decide_eq_true (by omega)
          rcases hd : Op.bytesLess y.name.toList x.name.toList with _ | _
          · have HO := Lib.hid (show okCls l = false by simp only [okCls, all_bad (crange_at (show j + 1 < l.length by have := hl.out; omega)) (rowCl_late HE.out (by omega) (by simpa using hy) hd), Bool.false_and])
            clear he hone h hbel c1 c2 c3 c4 d1 d2 d3 d4 hy hk0 HE hx
            go_wp2_with fail
            go_quiet ((go_at_call 98; exact Calls.quiet_of (HOne.out _ ⟨_, rfl⟩)))
            go_wp2
            go_ret
            exact ⟨ret_bool HO.out.symm, below_drewN HBe.out _⟩
          · have HR := Lib.hid (rowCl_ok HE.out hx (by simpa using hy) hd)
            clear he hone h hbel c1 c2 c3 c4 d1 d2 d3 d4 hy hk0 HE hx
            go_wp2_with fail
            go_quiet ((go_at_call 98; exact Calls.quiet_of (HOne.out _ ⟨_, rfl⟩)))
            go_wp2
            go_roundw
            case rel => exact ⟨j + 1 + 1, by omega, by go_num, HA.out.step (crange_at hlt) HR.out, below_drewN HBe.out _⟩
            case measure => simp [intOf]; omega
    · obtain rfl : k = n := by omega
      have HO := Lib.hid (show okCls l = decide (k ≤ 30) by simp only [okCls, hl.out, HA.out.done (by simp)]; simp)
      go_wp2
      go_ret
      exact ⟨ret_bool (by rw [HO.out]; simp; omega), hbel⟩

set_option maxHeartbeats 4000000 in
theorem implValidClients_any (A : Option Addr) (n c : Nat) (l : List Cl) (B : Nat) (w : World) (h : Reads w B 5 A n (cls l)) (hB : B ≤ w.heap.size) (hn : n ≤ 1048576) (hsm : ∀ x ∈ l, x.small) (hgd : ∀ x ∈ l, x.good) :
    Calls Try.prog 100 #[.slice A n c] w fun e w' => e = .returned (.bool (okCls l)) ∧ Below w.heap.size w w' := by
  have hl := Lib.hid (cls_len h)
  have HSM := Lib.hid hsm
  clear hsm hgd
  go_enter Try.func100, Try.ntmps100
  go_wp2
  go_loopw [7] (fun i wr => ∃ k : Nat, k ≤ n ∧ i = .int .i64 k ∧ AllTo (rowCl l) (List.range n) k ∧ Below w.heap.size w wr) (fun i _ => n - (intOf i).toNat)
  case atStart => exact ⟨0, Nat.zero_le _, rfl, AllTo.zero _ _, Below.refl _ _⟩
  case round =>
    obtain ⟨k, hk, rfl, hall, hbel⟩ := hrel
    have HA := Lib.hid hall
    have HBe := Lib.hid hbel
    clear hall
    by_cases hlt : k < n
    · obtain ⟨x, b, off, he, rfl, hb, c0, c1, c2, c3, c4⟩ := cl_at (h.on hB hbel) hlt
      have hs : x.name.size ≤ 9223372036854775807 := by have := HSM.out x (List.mem_of_getElem? he); unfold Cl.small at this; omega
      have HE := Lib.hid he
      have hi0 : (0 : Int) ≤ k := by omega
      have hi1 : (k : Int) < n := by omega
      rcases hx : okCl x with _ | _
      · have HO := Lib.hid (show okCls l = false by simp only [okCls, all_bad (crange_at (show k < l.length by have := hl.out; omega)) (rowCl_bad HE.out hx), Bool.false_and])
        have HVC := Lib.hid (show ∀ W : World, Calls Try.prog 101 #[.agg #[.string x.name, .int .i64 x.station, .int .i64 x.from_, .int .i64 x.to_, .int .i64 x.quota]] W fun e w' => e = .returned (.bool false) ∧ Below W.heap.size W w' from fun W => (validClient_any x W hs).mono fun _ _ hh => ⟨by rw [hh.1, hx], hh.2⟩)
        clear he h hbel HE hx
        go_wp2_with fail
        obtain ⟨wq, hwq⟩ : ∃ y, wr.alloc (.cells #[.string x.name, .int .i64 x.station, .int .i64 x.from_, .int .i64 x.to_, .int .i64 x.quota] 31) = y := ⟨_, rfl⟩
        have bx : Blk wq wr.heap.size 31 #[.string x.name, .int .i64 x.station, .int .i64 x.from_, .int .i64 x.to_, .int .i64 x.quota] := by rw [← hwq]; exact Blk.new _ _ _
        have bq : Below wr.heap.size wr wq := by rw [← hwq]; exact (Below.refl _ _).alloc (Nat.le_refl _) _
        rw [hwq]
        have q0 : wq.cell? ⟨wr.heap.size, 0, none⟩ = some (.string x.name) := bx.cellAt 0 (by simp)
        have q1 : wq.cell? ⟨wr.heap.size, 1, none⟩ = some (.int .i64 x.station) := bx.cellAt 1 (by simp)
        have q2 : wq.cell? ⟨wr.heap.size, 2, none⟩ = some (.int .i64 x.from_) := bx.cellAt 2 (by simp)
        have q3 : wq.cell? ⟨wr.heap.size, 3, none⟩ = some (.int .i64 x.to_) := bx.cellAt 3 (by simp)
        have q4 : wq.cell? ⟨wr.heap.size, 4, none⟩ = some (.int .i64 x.quota) := bx.cellAt 4 (by simp)
        have HBq := Lib.hid (bnext HBe.out bq (Nat.le_refl _))
        clear hwq bx bq c0 c1 c2 c3 c4
        refine wp_region_any (by kernel_rfl) ?_
        try (change wpAny _ _ _ _ _ _ _ (World.drew _))
        refine wpAny_ready (rs := [0]) (by kernel_rfl) (by simp) (AllReady.cons rfl (fun K hK => ?_) AllReady.nil)
        go_simp
        refine hK _ _ ?_
        clear hK K
        try simp only [Act.put, List.getElem_toArray, List.getElem_cons_succ, List.getElem_cons_zero, List.setIfInBounds_toArray, List.set_cons_zero, List.set_cons_succ]
        refine wpAny_ready (rs := [1]) (by kernel_rfl) (by simp) (AllReady.cons rfl (fun K hK => ?_) AllReady.nil)
        go_simp
        go_wp2_with ((go_at_call 101; refine (HVC.out _).mono ?_; rintro e w1 ⟨rfl, hb1⟩))
        try simp only [Act.put, List.getElem_toArray, List.getElem_cons_succ, List.getElem_cons_zero, List.setIfInBounds_toArray, List.set_cons_zero, List.set_cons_succ]
        refine wpAny_take (i := 2) (v := ?_) rfl (by kernel_rfl) (by kernel_rfl) (by kernel_rfl) (fun _ _ _ h => h) (Or.inl ⟨by kernel_rfl, ?_⟩) ?_
        rotate_left 1
        · intro w; go_simp; try with_reducible rfl
        try simp only [Act.put, List.getElem_toArray, List.getElem_cons_succ, List.getElem_cons_zero, List.setIfInBounds_toArray, List.set_cons_zero, List.set_cons_succ]
        refine wpAny_take (i := 3) (v := ?_) rfl (by kernel_rfl) (by kernel_rfl) (by kernel_rfl) (fun _ _ _ h => h) (Or.inl ⟨by kernel_rfl, ?_⟩) ?_
        rotate_left 1
        · intro w; go_simp; try with_reducible rfl
        try simp only [Act.put, List.getElem_toArray, List.getElem_cons_succ, List.getElem_cons_zero, List.setIfInBounds_toArray, List.set_cons_zero, List.set_cons_succ]
        refine wpAny_take (i := 4) (v := undef) rfl (by kernel_rfl) (by kernel_rfl) (by kernel_rfl) (fun _ _ _ h => h) (Or.inr ⟨by kernel_rfl, rfl⟩) ?_
        try simp only [Act.put, List.getElem_toArray, List.getElem_cons_succ, List.getElem_cons_zero, List.setIfInBounds_toArray, List.set_cons_zero, List.set_cons_succ]
        refine wpAny_take (i := 5) (v := undef) rfl (by kernel_rfl) (by kernel_rfl) (by kernel_rfl) (fun _ _ _ h => h) (Or.inr ⟨by kernel_rfl, rfl⟩) ?_
        try simp only [Act.put, List.getElem_toArray, List.getElem_cons_succ, List.getElem_cons_zero, List.setIfInBounds_toArray, List.set_cons_zero, List.set_cons_succ]
        refine wpAny_take (i := 6) (v := undef) rfl (by kernel_rfl) (by kernel_rfl) (by kernel_rfl) (fun _ _ _ h => h) (Or.inr ⟨by kernel_rfl, rfl⟩) ?_
        try simp only [Act.put, List.getElem_toArray, List.getElem_cons_succ, List.getElem_cons_zero, List.setIfInBounds_toArray, List.set_cons_zero, List.set_cons_succ]
        refine wpAny_take (i := 7) (v := undef) rfl (by kernel_rfl) (by kernel_rfl) (by kernel_rfl) (fun _ _ _ h => h) (Or.inr ⟨by kernel_rfl, rfl⟩) ?_
        try simp only [Act.put, List.getElem_toArray, List.getElem_cons_succ, List.getElem_cons_zero, List.setIfInBounds_toArray, List.set_cons_zero, List.set_cons_succ]
        refine wpAny_take (i := 8) (v := undef) rfl (by kernel_rfl) (by kernel_rfl) (by kernel_rfl) (fun _ _ _ h => h) (Or.inr ⟨by kernel_rfl, rfl⟩) ?_
        try simp only [Act.put, List.getElem_toArray, List.getElem_cons_succ, List.getElem_cons_zero, List.setIfInBounds_toArray, List.set_cons_zero, List.set_cons_succ]
        refine wpAny_take (i := 9) (v := undef) rfl (by kernel_rfl) (by kernel_rfl) (by kernel_rfl) (fun _ _ _ h => h) (Or.inr ⟨by kernel_rfl, rfl⟩) ?_
        try simp only [Act.put, List.getElem_toArray, List.getElem_cons_succ, List.getElem_cons_zero, List.setIfInBounds_toArray, List.set_cons_zero, List.set_cons_succ]
        refine wpAny_take (i := 10) (v := undef) rfl (by kernel_rfl) (by kernel_rfl) (by kernel_rfl) (fun _ _ _ h => h) (Or.inr ⟨by kernel_rfl, rfl⟩) ?_
        try simp only [Act.put, List.getElem_toArray, List.getElem_cons_succ, List.getElem_cons_zero, List.setIfInBounds_toArray, List.set_cons_zero, List.set_cons_succ]
        refine wpAny_take (i := 11) (v := undef) rfl (by kernel_rfl) (by kernel_rfl) (by kernel_rfl) (fun _ _ _ h => h) (Or.inr ⟨by kernel_rfl, rfl⟩) ?_
        try simp only [Act.put, List.getElem_toArray, List.getElem_cons_succ, List.getElem_cons_zero, List.setIfInBounds_toArray, List.set_cons_zero, List.set_cons_succ]
        refine wpAny_take (i := 12) (v := undef) rfl (by kernel_rfl) (by kernel_rfl) (by kernel_rfl) (fun _ _ _ h => h) (Or.inr ⟨by kernel_rfl, rfl⟩) ?_
        try simp only [Act.put, List.getElem_toArray, List.getElem_cons_succ, List.getElem_cons_zero, List.setIfInBounds_toArray, List.set_cons_zero, List.set_cons_succ]
        refine wpAny_take (i := 13) (v := undef) rfl (by kernel_rfl) (by kernel_rfl) (by kernel_rfl) (fun _ _ _ h => h) (Or.inr ⟨by kernel_rfl, rfl⟩) ?_
        try simp only [Act.put, List.getElem_toArray, List.getElem_cons_succ, List.getElem_cons_zero, List.setIfInBounds_toArray, List.set_cons_zero, List.set_cons_succ]
        refine wpAny_take (i := 14) (v := undef) rfl (by kernel_rfl) (by kernel_rfl) (by kernel_rfl) (fun _ _ _ h => h) (Or.inr ⟨by kernel_rfl, rfl⟩) ?_
        try simp only [Act.put, List.getElem_toArray, List.getElem_cons_succ, List.getElem_cons_zero, List.setIfInBounds_toArray, List.set_cons_zero, List.set_cons_succ]
        refine wpAny_take (i := 15) (v := undef) rfl (by kernel_rfl) (by kernel_rfl) (by kernel_rfl) (fun _ _ _ h => h) (Or.inr ⟨by kernel_rfl, rfl⟩) ?_
        try simp only [Act.put, List.getElem_toArray, List.getElem_cons_succ, List.getElem_cons_zero, List.setIfInBounds_toArray, List.set_cons_zero, List.set_cons_succ]
        refine wpAny_take (i := 16) (v := undef) rfl (by kernel_rfl) (by kernel_rfl) (by kernel_rfl) (fun _ _ _ h => h) (Or.inr ⟨by kernel_rfl, rfl⟩) ?_
        try simp only [Act.put, List.getElem_toArray, List.getElem_cons_succ, List.getElem_cons_zero, List.setIfInBounds_toArray, List.set_cons_zero, List.set_cons_succ]
        refine wpAny_take (i := 17) (v := ?_) rfl (by kernel_rfl) (by kernel_rfl) (by kernel_rfl) (fun _ _ _ h => h) (Or.inl ⟨by kernel_rfl, ?_⟩) ?_
        rotate_left 1
        · intro w; go_simp; try with_reducible rfl
        try simp only [Act.put, List.getElem_toArray, List.getElem_cons_succ, List.getElem_cons_zero, List.setIfInBounds_toArray, List.set_cons_zero, List.set_cons_succ]
        refine wpAny_done (by kernel_rfl) ?_ _
        have HF := Lib.hid (bnext (below_drewN HBq.out 1) hb1 (Nat.le_refl _))
        clear hb1 q0 q1 q2 q3 q4
        go_wp2_with fail
        go_ret
        exact ⟨ret_bool HO.out.symm, HF.out⟩
      · have HVC := Lib.hid (show ∀ W : World, Calls Try.prog 101 #[.agg #[.string x.name, .int .i64 x.station, .int .i64 x.from_, .int .i64 x.to_, .int .i64 x.quota]] W fun e w' => e = .returned (.bool true) ∧ Below W.heap.size W w' from fun W => (validClient_any x W hs).mono fun _ _ hh => ⟨by rw [hh.1, hx], hh.2⟩)
        by_cases hk0 : k = 0
        · subst hk0
          have HR := Lib.hid (rowCl_zero HE.out hx)
          simp only [Nat.zero_mul, Nat.add_zero] at c0 c1 c2 c3 c4
          clear he h hbel HE hx
          go_wp2_with fail
          obtain ⟨wq, hwq⟩ : ∃ y, wr.alloc (.cells #[.string x.name, .int .i64 x.station, .int .i64 x.from_, .int .i64 x.to_, .int .i64 x.quota] 31) = y := ⟨_, rfl⟩
          have bx : Blk wq wr.heap.size 31 #[.string x.name, .int .i64 x.station, .int .i64 x.from_, .int .i64 x.to_, .int .i64 x.quota] := by rw [← hwq]; exact Blk.new _ _ _
          have bq : Below wr.heap.size wr wq := by rw [← hwq]; exact (Below.refl _ _).alloc (Nat.le_refl _) _
          rw [hwq]
          have q0 : wq.cell? ⟨wr.heap.size, 0, none⟩ = some (.string x.name) := bx.cellAt 0 (by simp)
          have q1 : wq.cell? ⟨wr.heap.size, 1, none⟩ = some (.int .i64 x.station) := bx.cellAt 1 (by simp)
          have q2 : wq.cell? ⟨wr.heap.size, 2, none⟩ = some (.int .i64 x.from_) := bx.cellAt 2 (by simp)
          have q3 : wq.cell? ⟨wr.heap.size, 3, none⟩ = some (.int .i64 x.to_) := bx.cellAt 3 (by simp)
          have q4 : wq.cell? ⟨wr.heap.size, 4, none⟩ = some (.int .i64 x.quota) := bx.cellAt 4 (by simp)
          have HBq := Lib.hid (bnext HBe.out bq (Nat.le_refl _))
          clear hwq bx bq c0 c1 c2 c3 c4
          refine wp_region_any (by kernel_rfl) ?_
          try (change wpAny _ _ _ _ _ _ _ (World.drew _))
          refine wpAny_ready (rs := [0]) (by kernel_rfl) (by simp) (AllReady.cons rfl (fun K hK => ?_) AllReady.nil)
          go_simp
          refine hK _ _ ?_
          clear hK K
          try simp only [Act.put, List.getElem_toArray, List.getElem_cons_succ, List.getElem_cons_zero, List.setIfInBounds_toArray, List.set_cons_zero, List.set_cons_succ]
          refine wpAny_ready (rs := [1]) (by kernel_rfl) (by simp) (AllReady.cons rfl (fun K hK => ?_) AllReady.nil)
          go_simp
          go_wp2_with ((go_at_call 101; refine (HVC.out _).mono ?_; rintro e w1 ⟨rfl, hb1⟩))
          try simp only [Act.put, List.getElem_toArray, List.getElem_cons_succ, List.getElem_cons_zero, List.setIfInBounds_toArray, List.set_cons_zero, List.set_cons_succ]
          refine wpAny_take (i := 2) (v := ?_) rfl (by kernel_rfl) (by kernel_rfl) (by kernel_rfl) (fun _ _ _ h => h) (Or.inl ⟨by kernel_rfl, ?_⟩) ?_
          rotate_left 1
          · intro w; go_simp; try with_reducible rfl
          try simp only [Act.put, List.getElem_toArray, List.getElem_cons_succ, List.getElem_cons_zero, List.setIfInBounds_toArray, List.set_cons_zero, List.set_cons_succ]
          refine wpAny_take (i := 3) (v := ?_) rfl (by kernel_rfl) (by kernel_rfl) (by kernel_rfl) (fun _ _ _ h => h) (Or.inl ⟨by kernel_rfl, ?_⟩) ?_
          rotate_left 1
          · intro w; go_simp; try with_reducible rfl
          try simp only [Act.put, List.getElem_toArray, List.getElem_cons_succ, List.getElem_cons_zero, List.setIfInBounds_toArray, List.set_cons_zero, List.set_cons_succ]
          refine wpAny_take (i := 4) (v := ?_) rfl (by kernel_rfl) (by kernel_rfl) (by kernel_rfl) (fun _ _ _ h => h) (Or.inl ⟨by kernel_rfl, ?_⟩) ?_
          rotate_left 1
          · intro w; go_simp; try with_reducible rfl
          try simp only [Act.put, List.getElem_toArray, List.getElem_cons_succ, List.getElem_cons_zero, List.setIfInBounds_toArray, List.set_cons_zero, List.set_cons_succ]
          refine wpAny_take (i := 5) (v := ?_) rfl (by kernel_rfl) (by kernel_rfl) (by kernel_rfl) (fun _ _ _ h => h) (Or.inl ⟨by kernel_rfl, ?_⟩) ?_
          rotate_left 1
          · intro w; go_simp; try with_reducible rfl
          try simp only [Act.put, List.getElem_toArray, List.getElem_cons_succ, List.getElem_cons_zero, List.setIfInBounds_toArray, List.set_cons_zero, List.set_cons_succ]
          refine wpAny_take (i := 6) (v := ?_) rfl (by kernel_rfl) (by kernel_rfl) (by kernel_rfl) (fun _ _ _ h => h) (Or.inl ⟨by kernel_rfl, ?_⟩) ?_
          rotate_left 1
          · intro w; go_simp; try with_reducible rfl
          try simp only [Act.put, List.getElem_toArray, List.getElem_cons_succ, List.getElem_cons_zero, List.setIfInBounds_toArray, List.set_cons_zero, List.set_cons_succ]
          refine wpAny_take (i := 7) (v := undef) rfl (by kernel_rfl) (by kernel_rfl) (by kernel_rfl) (fun _ _ _ h => h) (Or.inr ⟨by kernel_rfl, rfl⟩) ?_
          try simp only [Act.put, List.getElem_toArray, List.getElem_cons_succ, List.getElem_cons_zero, List.setIfInBounds_toArray, List.set_cons_zero, List.set_cons_succ]
          refine wpAny_take (i := 8) (v := undef) rfl (by kernel_rfl) (by kernel_rfl) (by kernel_rfl) (fun _ _ _ h => h) (Or.inr ⟨by kernel_rfl, rfl⟩) ?_
          try simp only [Act.put, List.getElem_toArray, List.getElem_cons_succ, List.getElem_cons_zero, List.setIfInBounds_toArray, List.set_cons_zero, List.set_cons_succ]
          refine wpAny_take (i := 9) (v := undef) rfl (by kernel_rfl) (by kernel_rfl) (by kernel_rfl) (fun _ _ _ h => h) (Or.inr ⟨by kernel_rfl, rfl⟩) ?_
          try simp only [Act.put, List.getElem_toArray, List.getElem_cons_succ, List.getElem_cons_zero, List.setIfInBounds_toArray, List.set_cons_zero, List.set_cons_succ]
          refine wpAny_take (i := 10) (v := undef) rfl (by kernel_rfl) (by kernel_rfl) (by kernel_rfl) (fun _ _ _ h => h) (Or.inr ⟨by kernel_rfl, rfl⟩) ?_
          try simp only [Act.put, List.getElem_toArray, List.getElem_cons_succ, List.getElem_cons_zero, List.setIfInBounds_toArray, List.set_cons_zero, List.set_cons_succ]
          refine wpAny_take (i := 11) (v := undef) rfl (by kernel_rfl) (by kernel_rfl) (by kernel_rfl) (fun _ _ _ h => h) (Or.inr ⟨by kernel_rfl, rfl⟩) ?_
          try simp only [Act.put, List.getElem_toArray, List.getElem_cons_succ, List.getElem_cons_zero, List.setIfInBounds_toArray, List.set_cons_zero, List.set_cons_succ]
          refine wpAny_take (i := 12) (v := undef) rfl (by kernel_rfl) (by kernel_rfl) (by kernel_rfl) (fun _ _ _ h => h) (Or.inr ⟨by kernel_rfl, rfl⟩) ?_
          try simp only [Act.put, List.getElem_toArray, List.getElem_cons_succ, List.getElem_cons_zero, List.setIfInBounds_toArray, List.set_cons_zero, List.set_cons_succ]
          refine wpAny_take (i := 13) (v := undef) rfl (by kernel_rfl) (by kernel_rfl) (by kernel_rfl) (fun _ _ _ h => h) (Or.inr ⟨by kernel_rfl, rfl⟩) ?_
          try simp only [Act.put, List.getElem_toArray, List.getElem_cons_succ, List.getElem_cons_zero, List.setIfInBounds_toArray, List.set_cons_zero, List.set_cons_succ]
          refine wpAny_take (i := 14) (v := undef) rfl (by kernel_rfl) (by kernel_rfl) (by kernel_rfl) (fun _ _ _ h => h) (Or.inr ⟨by kernel_rfl, rfl⟩) ?_
          try simp only [Act.put, List.getElem_toArray, List.getElem_cons_succ, List.getElem_cons_zero, List.setIfInBounds_toArray, List.set_cons_zero, List.set_cons_succ]
          refine wpAny_take (i := 15) (v := undef) rfl (by kernel_rfl) (by kernel_rfl) (by kernel_rfl) (fun _ _ _ h => h) (Or.inr ⟨by kernel_rfl, rfl⟩) ?_
          try simp only [Act.put, List.getElem_toArray, List.getElem_cons_succ, List.getElem_cons_zero, List.setIfInBounds_toArray, List.set_cons_zero, List.set_cons_succ]
          refine wpAny_take (i := 16) (v := ?_) rfl (by kernel_rfl) (by kernel_rfl) (by kernel_rfl) (fun _ _ _ h => h) (Or.inl ⟨by kernel_rfl, ?_⟩) ?_
          rotate_left 1
          · intro w; go_simp; try with_reducible rfl
          try simp only [Act.put, List.getElem_toArray, List.getElem_cons_succ, List.getElem_cons_zero, List.setIfInBounds_toArray, List.set_cons_zero, List.set_cons_succ]
          refine wpAny_take (i := 17) (v := ?_) rfl (by kernel_rfl) (by kernel_rfl) (by kernel_rfl) (fun _ _ _ h => h) (Or.inl ⟨by kernel_rfl, ?_⟩) ?_
          rotate_left 1
          · intro w; go_simp; try with_reducible rfl
          try simp only [Act.put, List.getElem_toArray, List.getElem_cons_succ, List.getElem_cons_zero, List.setIfInBounds_toArray, List.set_cons_zero, List.set_cons_succ]
          refine wpAny_done (by kernel_rfl) ?_ _
          have HF := Lib.hid (bnext (below_drewN HBq.out 1) hb1 (Nat.le_refl _))
          clear hb1 q0 q1 q2 q3 q4
          go_wp2_with fail
          go_roundw
          case rel => exact ⟨1, by omega, by go_num, HA.out.step (crange_at hlt) HR.out, HF.out⟩
          case measure => simp [intOf]; omega
        · obtain ⟨j, rfl⟩ : ∃ j, k = j + 1 := ⟨k - 1, by omega⟩
          obtain ⟨y, b', off', hy, e2, hb', d0, d1, d2, d3, d4⟩ := cl_at (k := j) (h.on hB hbel) (by omega)
          injection e2 with e2; injection e2 with e2 e2'; subst e2; subst e2'
          have hj0 : (0 : Int) ≤ j := by omega
          have hj1 : (j : Int) < n := by omega
          have hj2 : (j : Int) + 1 < n := by omega
          have hg0 : decide ((0 : Int) < (j : Int) + 1) = true := decide_eq_true (by omega)
          rcases hd : Op.bytesLess y.name.toList x.name.toList with _ | _
          · have HO := Lib.hid (show okCls l = false by simp only [okCls, all_bad (crange_at (show j + 1 < l.length by have := hl.out; omega)) (rowCl_late HE.out (by omega) (by simpa using hy) hd), Bool.false_and])
            clear he h hbel d1 d2 d3 d4 hy hk0 HE hx
            go_wp2_with fail
            obtain ⟨wq, hwq⟩ : ∃ y, wr.alloc (.cells #[.string x.name, .int .i64 x.station, .int .i64 x.from_, .int .i64 x.to_, .int .i64 x.quota] 31) = y := ⟨_, rfl⟩
            have bx : Blk wq wr.heap.size 31 #[.string x.name, .int .i64 x.station, .int .i64 x.from_, .int .i64 x.to_, .int .i64 x.quota] := by rw [← hwq]; exact Blk.new _ _ _
            have bq : Below wr.heap.size wr wq := by rw [← hwq]; exact (Below.refl _ _).alloc (Nat.le_refl _) _
            rw [hwq]
            have q0 : wq.cell? ⟨wr.heap.size, 0, none⟩ = some (.string x.name) := bx.cellAt 0 (by simp)
            have q1 : wq.cell? ⟨wr.heap.size, 1, none⟩ = some (.int .i64 x.station) := bx.cellAt 1 (by simp)
            have q2 : wq.cell? ⟨wr.heap.size, 2, none⟩ = some (.int .i64 x.from_) := bx.cellAt 2 (by simp)
            have q3 : wq.cell? ⟨wr.heap.size, 3, none⟩ = some (.int .i64 x.to_) := bx.cellAt 3 (by simp)
            have q4 : wq.cell? ⟨wr.heap.size, 4, none⟩ = some (.int .i64 x.quota) := bx.cellAt 4 (by simp)
            have HBq := Lib.hid (bnext HBe.out bq (Nat.le_refl _))
            replace d0 := cell_on bq d0
            clear hwq bx bq c0 c1 c2 c3 c4
            have hw : IntKind.i64.wrap ((j : Int) + 1 - 1) = j := by rw [IntWalk.i64_in _ (by omega)]; omega
            have hw2 : IntKind.i64.wrap (j : Int) = j := IntWalk.i64_in _ (by omega)
            go_region_held3 (fun W => Below wq.heap.size wq W ∧ W.cell? ⟨wr.heap.size, 0, none⟩ = some (.string x.name) ∧ W.cell? ⟨wr.heap.size, 1, none⟩ = some (.int .i64 x.station) ∧ W.cell? ⟨wr.heap.size, 2, none⟩ = some (.int .i64 x.from_) ∧ W.cell? ⟨wr.heap.size, 3, none⟩ = some (.int .i64 x.to_) ∧ W.cell? ⟨wr.heap.size, 4, none⟩ = some (.int .i64 x.quota) ∧ W.cell? ⟨b, off + j * 5, none⟩ = some (.string y.name)) (first | exact ⟨(Below.refl _ _).drew, q0, q1, q2, q3, q4, d0⟩ | (go_split_ands; exact ⟨bnext (by assumption) hb1 (Nat.le_refl _), cell_on hb1 (by assumption), cell_on hb1 (by assumption), cell_on hb1 (by assumption), cell_on hb1 (by assumption), cell_on hb1 (by assumption), cell_on hb1 (by assumption)⟩)) (first | (go_at_call 101; refine (HVC.out _).mono ?_; rintro e w1 ⟨rfl, hb1⟩))
            rename_i hS
            have HF := Lib.hid (bnext HBq.out hS.1 (Nat.le_refl _))
            clear hS hb1 q0 q1 q2 q3 q4 d0 hw hw2
            go_wp2_with fail
            go_ret
            exact ⟨ret_bool HO.out.symm, HF.out⟩
          · have HR := Lib.hid (rowCl_ok HE.out hx (by simpa using hy) hd)
            clear he h hbel d1 d2 d3 d4 hy hk0 HE hx
            go_wp2_with fail
            obtain ⟨wq, hwq⟩ : ∃ y, wr.alloc (.cells #[.string x.name, .int .i64 x.station, .int .i64 x.from_, .int .i64 x.to_, .int .i64 x.quota] 31) = y := ⟨_, rfl⟩
            have bx : Blk wq wr.heap.size 31 #[.string x.name, .int .i64 x.station, .int .i64 x.from_, .int .i64 x.to_, .int .i64 x.quota] := by rw [← hwq]; exact Blk.new _ _ _
            have bq : Below wr.heap.size wr wq := by rw [← hwq]; exact (Below.refl _ _).alloc (Nat.le_refl _) _
            rw [hwq]
            have q0 : wq.cell? ⟨wr.heap.size, 0, none⟩ = some (.string x.name) := bx.cellAt 0 (by simp)
            have q1 : wq.cell? ⟨wr.heap.size, 1, none⟩ = some (.int .i64 x.station) := bx.cellAt 1 (by simp)
            have q2 : wq.cell? ⟨wr.heap.size, 2, none⟩ = some (.int .i64 x.from_) := bx.cellAt 2 (by simp)
            have q3 : wq.cell? ⟨wr.heap.size, 3, none⟩ = some (.int .i64 x.to_) := bx.cellAt 3 (by simp)
            have q4 : wq.cell? ⟨wr.heap.size, 4, none⟩ = some (.int .i64 x.quota) := bx.cellAt 4 (by simp)
            have HBq := Lib.hid (bnext HBe.out bq (Nat.le_refl _))
            replace d0 := cell_on bq d0
            clear hwq bx bq c0 c1 c2 c3 c4
            have hw : IntKind.i64.wrap ((j : Int) + 1 - 1) = j := by rw [IntWalk.i64_in _ (by omega)]; omega
            have hw2 : IntKind.i64.wrap (j : Int) = j := IntWalk.i64_in _ (by omega)
            go_region_held3 (fun W => Below wq.heap.size wq W ∧ W.cell? ⟨wr.heap.size, 0, none⟩ = some (.string x.name) ∧ W.cell? ⟨wr.heap.size, 1, none⟩ = some (.int .i64 x.station) ∧ W.cell? ⟨wr.heap.size, 2, none⟩ = some (.int .i64 x.from_) ∧ W.cell? ⟨wr.heap.size, 3, none⟩ = some (.int .i64 x.to_) ∧ W.cell? ⟨wr.heap.size, 4, none⟩ = some (.int .i64 x.quota) ∧ W.cell? ⟨b, off + j * 5, none⟩ = some (.string y.name)) (first | exact ⟨(Below.refl _ _).drew, q0, q1, q2, q3, q4, d0⟩ | (go_split_ands; exact ⟨bnext (by assumption) hb1 (Nat.le_refl _), cell_on hb1 (by assumption), cell_on hb1 (by assumption), cell_on hb1 (by assumption), cell_on hb1 (by assumption), cell_on hb1 (by assumption), cell_on hb1 (by assumption)⟩)) (first | (go_at_call 101; refine (HVC.out _).mono ?_; rintro e w1 ⟨rfl, hb1⟩))
            rename_i hS
            have HF := Lib.hid (bnext HBq.out hS.1 (Nat.le_refl _))
            clear hS hb1 q0 q1 q2 q3 q4 d0 hw hw2
            go_wp2_with fail
            go_roundw
            case rel => exact ⟨j + 1 + 1, by omega, by go_num, HA.out.step (crange_at hlt) HR.out, HF.out⟩
            case measure => simp [intOf]; omega
    · obtain rfl : k = n := by omega
      have HO := Lib.hid (show okCls l = decide (k ≤ 30) by simp only [okCls, hl.out, HA.out.done (by simp)]; simp)
      go_wp2
      go_ret
      exact ⟨ret_bool (by rw [HO.out]; simp; omega), hbel⟩
end Go.Proofs.Ytnlghcpidlpfkaa
