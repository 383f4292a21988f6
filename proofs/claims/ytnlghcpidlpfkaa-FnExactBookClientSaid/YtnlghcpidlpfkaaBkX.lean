/- Bookings: one added, as the program does it: the whole. -/
import Derived.Test.YtnlghcpidlpfkaaBkU
import Derived.Deep.DeepCutAuto
set_option linter.unusedVariables false
set_option linter.unusedSimpArgs false
namespace Go.Proofs.Ytnlghcpidlpfkaa
open Go.RowKit

set_option maxHeartbeats 4000000 in
set_option maxRecDepth 100000 in
theorem implBookClient_any (g n c : Nat) (l : List Bk) (x : Bk) (B : Nat) (w : World) (h : Reads w B 3 (some ⟨g, 0, none⟩) n (bks l)) (hB : B ≤ w.heap.size) (hn : n ≤ 1048576) (hsm : ∀ x ∈ l, x.small) (hx : x.good) (hxs : x.small) :
    Calls Try.prog 26 #[.slice (some ⟨g, 0, none⟩) n c, .agg #[.int .i64 x.day, .string x.client, .int .i64 x.amount]] w fun e w' => ∃ A' m c', e = .returned (.tuple #[.slice A' m c', .int .i64 (bookF l x).2]) ∧ Sl w' w.heap.size w'.heap.size 45 3 A' m c' (bks (bookF l x).1) ∧ Below w.heap.size w w' := by
  have hl := Lib.hid (bks_len h)
  rcases h1 : okBks l with _ | _
  · have HO := Lib.hid (bookF_bad (x := x) h1)
    go_enter Try.func26, Try.ntmps26
    go_wp2_with fail
    obtain ⟨wq, hwq⟩ : ∃ y, w.alloc (.cells #[.int .i64 x.day, .string x.client, .int .i64 x.amount] 45) = y := ⟨_, rfl⟩
    rw [hwq]
    have yq : Blk wq w.heap.size 45 #[.int .i64 x.day, .string x.client, .int .i64 x.amount] := by rw [← hwq]; exact Blk.new _ _ _
    have bq : Below w.heap.size w wq := by rw [← hwq]; exact (Below.refl _ _).alloc (Nat.le_refl _) _
    have zq := bq.size
    clear hwq
    refine (implValidBookings_any _ n c l B wq (h.on hB bq) (by omega) hn hsm).mono ?_
    rintro e w1 ⟨rfl, b1⟩
    have z1 := b1.size
    have y1 := yq.on b1
    have H1 := Lib.hid (bnext bq b1 (Nat.le_refl _))
    have h1' := (h.on hB bq).on (by omega) b1
    clear b1 yq bq
    go_wp2
    go_ret2
    rw [HO.out]
    exact ⟨_, _, _, rfl, Sl.nil _ _ _ _ _, H1.out⟩
  · rcases h2 : okBk x with _ | _
    · have HO := Lib.hid (bookF_range h1 h2)
      go_enter Try.func26, Try.ntmps26
      go_wp2_with fail
      obtain ⟨wq, hwq⟩ : ∃ y, w.alloc (.cells #[.int .i64 x.day, .string x.client, .int .i64 x.amount] 45) = y := ⟨_, rfl⟩
      rw [hwq]
      have yq : Blk wq w.heap.size 45 #[.int .i64 x.day, .string x.client, .int .i64 x.amount] := by rw [← hwq]; exact Blk.new _ _ _
      have bq : Below w.heap.size w wq := by rw [← hwq]; exact (Below.refl _ _).alloc (Nat.le_refl _) _
      have zq := bq.size
      clear hwq
      refine (implValidBookings_any _ n c l B wq (h.on hB bq) (by omega) hn hsm).mono ?_
      rintro e w1 ⟨rfl, b1⟩
      have z1 := b1.size
      have y1 := yq.on b1
      have H1 := Lib.hid (bnext bq b1 (Nat.le_refl _))
      have h1' := (h.on hB bq).on (by omega) b1
      clear b1 yq bq
      have q0 : w1.cell? ⟨w.heap.size, 0, none⟩ = some (.int .i64 x.day) := y1.cellAt 0 (by simp)
      have q1 : w1.cell? ⟨w.heap.size, 1, none⟩ = some (.string x.client) := y1.cellAt 1 (by simp)
      have q2 : w1.cell? ⟨w.heap.size, 2, none⟩ = some (.int .i64 x.amount) := y1.cellAt 2 (by simp)
      go_wp2_with fail
      refine (validBooking_any x _ hx.2.1).mono ?_
      rintro e w2 ⟨rfl, b2⟩
      have z2 := b2.size
      have y2 := y1.on b2
      have H2 := Lib.hid (bnext H1.out b2 (Nat.le_refl _))
      have h2' := h1'.on (by omega) b2
      clear b2 y1 q0 q1 q2 h1'
      go_wp2
      go_ret2
      rw [HO.out]
      exact ⟨_, _, _, rfl, Sl.nil _ _ _ _ _, H2.out⟩
    · have hl80 := okBks_len h1
      have hll := hl.out
      by_cases hfull : n = 80
      · have HO := Lib.hid (bookF_full h1 h2 (by omega))
        have hf80 : ((n : Int) == 80) = true := by simp; omega
        clear hl80 hll hfull
        go_enter Try.func26, Try.ntmps26
        go_wp2_with fail
        obtain ⟨wq, hwq⟩ : ∃ y, w.alloc (.cells #[.int .i64 x.day, .string x.client, .int .i64 x.amount] 45) = y := ⟨_, rfl⟩
        rw [hwq]
        have yq : Blk wq w.heap.size 45 #[.int .i64 x.day, .string x.client, .int .i64 x.amount] := by rw [← hwq]; exact Blk.new _ _ _
        have bq : Below w.heap.size w wq := by rw [← hwq]; exact (Below.refl _ _).alloc (Nat.le_refl _) _
        have zq := bq.size
        clear hwq
        refine (implValidBookings_any _ n c l B wq (h.on hB bq) (by omega) hn hsm).mono ?_
        rintro e w1 ⟨rfl, b1⟩
        have z1 := b1.size
        have y1 := yq.on b1
        have H1 := Lib.hid (bnext bq b1 (Nat.le_refl _))
        have h1' := (h.on hB bq).on (by omega) b1
        clear b1 yq bq
        have q0 : w1.cell? ⟨w.heap.size, 0, none⟩ = some (.int .i64 x.day) := y1.cellAt 0 (by simp)
        have q1 : w1.cell? ⟨w.heap.size, 1, none⟩ = some (.string x.client) := y1.cellAt 1 (by simp)
        have q2 : w1.cell? ⟨w.heap.size, 2, none⟩ = some (.int .i64 x.amount) := y1.cellAt 2 (by simp)
        go_wp2_with fail
        refine (validBooking_any x _ hx.2.1).mono ?_
        rintro e w2 ⟨rfl, b2⟩
        have z2 := b2.size
        have y2 := y1.on b2
        have H2 := Lib.hid (bnext H1.out b2 (Nat.le_refl _))
        have h2' := h1'.on (by omega) b2
        clear b2 y1 q0 q1 q2 h1'
        go_wp2
        go_ret2
        rw [HO.out]
        exact ⟨_, _, _, rfl, Sl.nil _ _ _ _ _, H2.out⟩
      · have HOk := Lib.hid (fun i (hi : cutBk l x.day = i) => bookF_ok h1 h2 (by omega) hi)
        have hle : n ≤ 79 := by omega
        have hf80 : ((n : Int) == 80) = false := by simp; omega
        clear hl80 hll
        go_enter Try.func26, Try.ntmps26
        go_wp2_with fail
        obtain ⟨wq, hwq⟩ : ∃ y, w.alloc (.cells #[.int .i64 x.day, .string x.client, .int .i64 x.amount] 45) = y := ⟨_, rfl⟩
        rw [hwq]
        have yq : Blk wq w.heap.size 45 #[.int .i64 x.day, .string x.client, .int .i64 x.amount] := by rw [← hwq]; exact Blk.new _ _ _
        have bq : Below w.heap.size w wq := by rw [← hwq]; exact (Below.refl _ _).alloc (Nat.le_refl _) _
        have zq := bq.size
        clear hwq
        refine (implValidBookings_any _ n c l B wq (h.on hB bq) (by omega) hn hsm).mono ?_
        rintro e w1 ⟨rfl, b1⟩
        have z1 := b1.size
        have y1 := yq.on b1
        have H1 := Lib.hid (bnext bq b1 (Nat.le_refl _))
        have h1' := (h.on hB bq).on (by omega) b1
        clear b1 yq bq
        have q0 : w1.cell? ⟨w.heap.size, 0, none⟩ = some (.int .i64 x.day) := y1.cellAt 0 (by simp)
        have q1 : w1.cell? ⟨w.heap.size, 1, none⟩ = some (.string x.client) := y1.cellAt 1 (by simp)
        have q2 : w1.cell? ⟨w.heap.size, 2, none⟩ = some (.int .i64 x.amount) := y1.cellAt 2 (by simp)
        go_wp2_with fail
        refine (validBooking_any x _ hx.2.1).mono ?_
        rintro e w2 ⟨rfl, b2⟩
        have z2 := b2.size
        have y2 := y1.on b2
        have H2 := Lib.hid (bnext H1.out b2 (Nat.le_refl _))
        have h2' := h1'.on (by omega) b2
        clear b2 y1 q0 q1 q2 h1'
        have q0 : w2.cell? ⟨w.heap.size, 0, none⟩ = some (.int .i64 x.day) := y2.cellAt 0 (by simp)
        have q1 : w2.cell? ⟨w.heap.size, 1, none⟩ = some (.string x.client) := y2.cellAt 1 (by simp)
        have q2 : w2.cell? ⟨w.heap.size, 2, none⟩ = some (.int .i64 x.amount) := y2.cellAt 2 (by simp)
        go_wp2_with fail
        refine (idxBk_any g n c l x.day w.heap.size B _ h2' (by omega) hn q0).mono ?_
        rintro e w3 ⟨rfl, b3⟩
        have z3 := b3.size
        have y3 := y2.on b3
        have H3 := Lib.hid (bnext H2.out b3 (Nat.le_refl _))
        have h3 := Lib.hid (h2'.on (by omega) b3)
        clear b3 y2 q0 q1 q2 h2' h
        have q0 : w3.cell? ⟨w.heap.size, 0, none⟩ = some (.int .i64 x.day) := y3.cellAt 0 (by simp)
        have q1 : w3.cell? ⟨w.heap.size, 1, none⟩ = some (.string x.client) := y3.cellAt 1 (by simp)
        have q2 : w3.cell? ⟨w.heap.size, 2, none⟩ = some (.int .i64 x.amount) := y3.cellAt 2 (by simp)
        have hB3 : B ≤ w3.heap.size := by omega
        have hw03 : w.heap.size ≤ w3.heap.size := by omega
        clear y3
        obtain ⟨i, hi⟩ : ∃ i, i = cutBk l x.day := ⟨_, rfl⟩
        have HO := Lib.hid (HOk.out i hi.symm)
        have hid := Lib.hid (idx_cut l x.day)
        rw [← hi] at hid
        have hin : i ≤ n := by have := hid.out; have := hl.out; omega
        clear hi HOk
        go_upto_if 23 with fail
        go_cut [6] (fun s6 wx => s6 = .int .i64 (i : Int) ∧ wx = w3)
        case first =>
          rcases hid.out with ⟨hi1, hi2⟩ | ⟨hi1, hi2⟩
          · obtain rfl : i = n := hi2.trans hl.out
            rw [hi1]
            clear hi1 hi2
            go_wp2_with fail
            go_meet
            exact ⟨rfl, rfl⟩
          · have hneg : decide ((i : Int) < 0) = false := decide_eq_false (by omega)
            rw [hi1]
            clear hi1 hi2
            go_wp2_with fail
            go_meet
            exact ⟨rfl, rfl⟩
        case rest =>
          obtain ⟨rfl, hwc⟩ := hcut
          rw [hwc]
          clear hwc
          go_wp2_with fail
          refine wp_region_any (by kernel_rfl) ?_
          try (change wpAny _ _ _ _ _ _ _ (World.drew _))
          refine wpAny_take (i := 0) (v := ?_) rfl (by kernel_rfl) (by kernel_rfl) (by kernel_rfl) (fun _ _ _ h => h) (Or.inl ⟨by kernel_rfl, ?_⟩) ?_
          rotate_left 1
          · intro w; go_simp; try with_reducible rfl
          try simp only [Act.put, List.getElem_toArray, List.getElem_cons_succ, List.getElem_cons_zero, List.setIfInBounds_toArray, List.set_cons_zero, List.set_cons_succ]
          refine wpAny_take (i := 2) (v := ?_) rfl (by kernel_rfl) (by kernel_rfl) (by kernel_rfl) (fun _ _ _ h => h) (Or.inl ⟨by kernel_rfl, ?_⟩) ?_
          rotate_left 1
          · intro w; go_simp; try with_reducible rfl
          try simp only [Act.put, List.getElem_toArray, List.getElem_cons_succ, List.getElem_cons_zero, List.setIfInBounds_toArray, List.set_cons_zero, List.set_cons_succ]
          refine wpAny_ready (rs := [1, 3]) (by kernel_rfl) (by simp) (AllReady.cons rfl (fun K hK => ?_) (AllReady.cons rfl (fun K hK => ?_) AllReady.nil))
          · go_simp
            refine (cloneBk_any g 0 n c l B _ (h3.out.on hB3 ((Below.refl w3.heap.size w3).drew)) (Nat.le_trans hB3 ((Below.refl w3.heap.size w3).drew).size) (by omega)).mono ?_
            rintro e w4 ⟨A4, c4, rfl, sA, bA⟩
            have r0 : w4.cell? ⟨w.heap.size, 0, none⟩ = some (.int .i64 x.day) := cell_on bA q0
            have r1 : w4.cell? ⟨w.heap.size, 1, none⟩ = some (.string x.client) := cell_on bA q1
            have r2 : w4.cell? ⟨w.heap.size, 2, none⟩ = some (.int .i64 x.amount) := cell_on bA q2
            go_wp2
            try simp only [Act.put, List.getElem_toArray, List.getElem_cons_succ, List.getElem_cons_zero, List.setIfInBounds_toArray, List.set_cons_zero, List.set_cons_succ]
            refine wpAny_ready (rs := [3]) (by kernel_rfl) (by simp) (AllReady.cons rfl (fun K hK => ?_) AllReady.nil)
            go_simp
            refine hK _ _ ?_
            clear hK K
            try simp only [Act.put, List.getElem_toArray, List.getElem_cons_succ, List.getElem_cons_zero, List.setIfInBounds_toArray, List.set_cons_zero, List.set_cons_succ]
            refine wpAny_ready (rs := [4]) (by kernel_rfl) (by simp) (AllReady.cons rfl (fun K hK => ?_) AllReady.nil)
            go_simp
            refine hK _ _ ?_
            clear hK K
            try simp only [Act.put, List.getElem_toArray, List.getElem_cons_succ, List.getElem_cons_zero, List.setIfInBounds_toArray, List.set_cons_zero, List.set_cons_succ]
            refine wpAny_ready (rs := [5]) (by kernel_rfl) (by simp) (AllReady.cons rfl (fun K hK => ?_) AllReady.nil)
            go_simp
            refine (insBk_any A4 n c4 i _ _ _ (bks l) (cellsBk x) _ (sA.on ((Below.refl _ _).alloc (Nat.le_refl _) _)) (Nat.le_trans bA.size (by simp)) (by simp) hin (by omega) (bks_one l) (Blk.new _ _ _) rfl (.inr (Nat.le_refl _)) (bk1 x)).mono ?_
            rintro e w5 ⟨A5, c5, rfl, sR, bI⟩
            have HR := Lib.hid (And.intro (sR.wide (Nat.le_trans hw03 ((Below.refl w3.heap.size w3).drew).size) (Nat.le_refl _)) (bonly ((bnext (bnext H3.out ((Below.refl w3.heap.size w3).drew) (Nat.le_refl _)) bA (Nat.le_refl _)).alloc (Nat.le_trans hw03 (Nat.le_trans ((Below.refl w3.heap.size w3).drew).size bA.size)) _) bI (Nat.le_trans hw03 ((Below.refl w3.heap.size w3).drew).size) (Nat.le_refl _)))
            clear sR bI sA bA
            go_wp2
            try simp only [Act.put, List.getElem_toArray, List.getElem_cons_succ, List.getElem_cons_zero, List.setIfInBounds_toArray, List.set_cons_zero, List.set_cons_succ]
            refine wpAny_take (i := 6) (v := ?_) rfl (by kernel_rfl) (by kernel_rfl) (by kernel_rfl) (fun _ _ _ h => h) (Or.inl ⟨by kernel_rfl, ?_⟩) ?_
            rotate_left 1
            · intro w; go_simp; try with_reducible rfl
            try simp only [Act.put, List.getElem_toArray, List.getElem_cons_succ, List.getElem_cons_zero, List.setIfInBounds_toArray, List.set_cons_zero, List.set_cons_succ]
            refine wpAny_take (i := 7) (v := ?_) rfl (by kernel_rfl) (by kernel_rfl) (by kernel_rfl) (fun _ _ _ h => h) (Or.inl ⟨by kernel_rfl, ?_⟩) ?_
            rotate_left 1
            · intro w; go_simp; try with_reducible rfl
            try simp only [Act.put, List.getElem_toArray, List.getElem_cons_succ, List.getElem_cons_zero, List.setIfInBounds_toArray, List.set_cons_zero, List.set_cons_succ]
            refine wpAny_done (by kernel_rfl) ?_ _
            go_wp2
            go_ret2
            rw [HO.out, bks_ins]
            exact ⟨_, _, _, rfl, HR.out.1, HR.out.2⟩
          · go_simp
            refine hK _ _ ?_
            clear hK K
            try simp only [Act.put, List.getElem_toArray, List.getElem_cons_succ, List.getElem_cons_zero, List.setIfInBounds_toArray, List.set_cons_zero, List.set_cons_succ]
            refine wpAny_ready (rs := [1, 4]) (by kernel_rfl) (by simp) (AllReady.cons rfl (fun K hK => ?_) (AllReady.cons rfl (fun K hK => ?_) AllReady.nil))
            · go_simp
              refine (cloneBk_any g 0 n c l B _ (h3.out.on hB3 ((Below.refl w3.heap.size w3).drew)) (Nat.le_trans hB3 ((Below.refl w3.heap.size w3).drew).size) (by omega)).mono ?_
              rintro e w4 ⟨A4, c4, rfl, sA, bA⟩
              go_wp2
              try simp only [Act.put, List.getElem_toArray, List.getElem_cons_succ, List.getElem_cons_zero, List.setIfInBounds_toArray, List.set_cons_zero, List.set_cons_succ]
              refine wpAny_ready (rs := [4]) (by kernel_rfl) (by simp) (AllReady.cons rfl (fun K hK => ?_) AllReady.nil)
              go_simp
              refine hK _ _ ?_
              clear hK K
              try simp only [Act.put, List.getElem_toArray, List.getElem_cons_succ, List.getElem_cons_zero, List.setIfInBounds_toArray, List.set_cons_zero, List.set_cons_succ]
              refine wpAny_ready (rs := [5]) (by kernel_rfl) (by simp) (AllReady.cons rfl (fun K hK => ?_) AllReady.nil)
              go_simp
              refine (insBk_any A4 n c4 i _ _ _ (bks l) (cellsBk x) _ (sA.on ((Below.refl _ _).alloc (Nat.le_refl _) _)) (Nat.le_trans bA.size (by simp)) (by simp) hin (by omega) (bks_one l) (Blk.new _ _ _) rfl (.inr (Nat.le_refl _)) (bk1 x)).mono ?_
              rintro e w5 ⟨A5, c5, rfl, sR, bI⟩
              have HR := Lib.hid (And.intro (sR.wide (Nat.le_trans hw03 ((Below.refl w3.heap.size w3).drew).size) (Nat.le_refl _)) (bonly ((bnext (bnext H3.out ((Below.refl w3.heap.size w3).drew) (Nat.le_refl _)) bA (Nat.le_refl _)).alloc (Nat.le_trans hw03 (Nat.le_trans ((Below.refl w3.heap.size w3).drew).size bA.size)) _) bI (Nat.le_trans hw03 ((Below.refl w3.heap.size w3).drew).size) (Nat.le_refl _)))
              clear sR bI sA bA
              go_wp2
              try simp only [Act.put, List.getElem_toArray, List.getElem_cons_succ, List.getElem_cons_zero, List.setIfInBounds_toArray, List.set_cons_zero, List.set_cons_succ]
              refine wpAny_take (i := 6) (v := ?_) rfl (by kernel_rfl) (by kernel_rfl) (by kernel_rfl) (fun _ _ _ h => h) (Or.inl ⟨by kernel_rfl, ?_⟩) ?_
              rotate_left 1
              · intro w; go_simp; try with_reducible rfl
              try simp only [Act.put, List.getElem_toArray, List.getElem_cons_succ, List.getElem_cons_zero, List.setIfInBounds_toArray, List.set_cons_zero, List.set_cons_succ]
              refine wpAny_take (i := 7) (v := ?_) rfl (by kernel_rfl) (by kernel_rfl) (by kernel_rfl) (fun _ _ _ h => h) (Or.inl ⟨by kernel_rfl, ?_⟩) ?_
              rotate_left 1
              · intro w; go_simp; try with_reducible rfl
              try simp only [Act.put, List.getElem_toArray, List.getElem_cons_succ, List.getElem_cons_zero, List.setIfInBounds_toArray, List.set_cons_zero, List.set_cons_succ]
              refine wpAny_done (by kernel_rfl) ?_ _
              go_wp2
              go_ret2
              rw [HO.out, bks_ins]
              exact ⟨_, _, _, rfl, HR.out.1, HR.out.2⟩
            · go_simp
              refine hK _ _ ?_
              clear hK K
              try simp only [Act.put, List.getElem_toArray, List.getElem_cons_succ, List.getElem_cons_zero, List.setIfInBounds_toArray, List.set_cons_zero, List.set_cons_succ]
              refine wpAny_ready (rs := [1]) (by kernel_rfl) (by simp) (AllReady.cons rfl (fun K hK => ?_) AllReady.nil)
              go_simp
              refine (cloneBk_any g 0 n c l B _ (h3.out.on hB3 ((Below.refl w3.heap.size w3).drew.alloc (Nat.le_refl _) _)) (Nat.le_trans hB3 ((Below.refl w3.heap.size w3).drew.alloc (Nat.le_refl _) _).size) (by omega)).mono ?_
              rintro e w4 ⟨A4, c4, rfl, sA, bA⟩
              go_wp2
              try simp only [Act.put, List.getElem_toArray, List.getElem_cons_succ, List.getElem_cons_zero, List.setIfInBounds_toArray, List.set_cons_zero, List.set_cons_succ]
              refine wpAny_ready (rs := [5]) (by kernel_rfl) (by simp) (AllReady.cons rfl (fun K hK => ?_) AllReady.nil)
              go_simp
              refine (insBk_any A4 n c4 i _ _ _ (bks l) (cellsBk x) _ sA bA.size (Nat.le_refl _) hin (by omega) (bks_one l) (Blk.on (Blk.new _ _ _) bA) rfl (.inl (by simp)) (bk1 x)).mono ?_
              rintro e w5 ⟨A5, c5, rfl, sR, bI⟩
              have HR := Lib.hid (And.intro (sR.wide (Nat.le_trans hw03 ((Below.refl w3.heap.size w3).drew.alloc (Nat.le_refl _) _).size) (Nat.le_refl _)) (bonly (bnext (bnext H3.out ((Below.refl w3.heap.size w3).drew.alloc (Nat.le_refl _) _) (Nat.le_refl _)) bA (Nat.le_refl _)) bI (Nat.le_trans hw03 ((Below.refl w3.heap.size w3).drew.alloc (Nat.le_refl _) _).size) (Nat.le_refl _)))
              clear sR bI sA bA
              go_wp2
              try simp only [Act.put, List.getElem_toArray, List.getElem_cons_succ, List.getElem_cons_zero, List.setIfInBounds_toArray, List.set_cons_zero, List.set_cons_succ]
              refine wpAny_take (i := 6) (v := ?_) rfl (by kernel_rfl) (by kernel_rfl) (by kernel_rfl) (fun _ _ _ h => h) (Or.inl ⟨by kernel_rfl, ?_⟩) ?_
              rotate_left 1
              · intro w; go_simp; try with_reducible rfl
              try simp only [Act.put, List.getElem_toArray, List.getElem_cons_succ, List.getElem_cons_zero, List.setIfInBounds_toArray, List.set_cons_zero, List.set_cons_succ]
              refine wpAny_take (i := 7) (v := ?_) rfl (by kernel_rfl) (by kernel_rfl) (by kernel_rfl) (fun _ _ _ h => h) (Or.inl ⟨by kernel_rfl, ?_⟩) ?_
              rotate_left 1
              · intro w; go_simp; try with_reducible rfl
              try simp only [Act.put, List.getElem_toArray, List.getElem_cons_succ, List.getElem_cons_zero, List.setIfInBounds_toArray, List.set_cons_zero, List.set_cons_succ]
              refine wpAny_done (by kernel_rfl) ?_ _
              go_wp2
              go_ret2
              rw [HO.out, bks_ins]
              exact ⟨_, _, _, rfl, HR.out.1, HR.out.2⟩
end Go.Proofs.Ytnlghcpidlpfkaa
