/- Bookings: one added, as the reference says it. -/
import Derived.Test.YtnlghcpidlpfkaaBkR
import Derived.Test.YtnlghcpidlpfkaaSrc
set_option linter.unusedVariables false
set_option linter.unusedSimpArgs false
namespace Go.Proofs.Ytnlghcpidlpfkaa
open Go.RowKit

set_option maxHeartbeats 4000000 in
set_option maxRecDepth 100000 in
theorem specBookClient_any (g n c : Nat) (l : List Bk) (x : Bk) (B : Nat) (w : World) (h : Reads w B 3 (some ⟨g, 0, none⟩) n (bks l)) (hB : B ≤ w.heap.size) (hn : n ≤ 1048576) (hsm : ∀ x ∈ l, x.small) (hx : x.good) (hxs : x.small) (hnc : n ≤ c := by omega) :
    Calls Try.prog 23 #[.slice (some ⟨g, 0, none⟩) n c, .agg #[.int .i64 x.day, .string x.client, .int .i64 x.amount]] w fun e w' => ∃ A' m c', e = .returned (.tuple #[.slice A' m c', .int .i64 (bookF l x).2]) ∧ Sl w' w.heap.size w'.heap.size 45 3 A' m c' (bks (bookF l x).1) ∧ Below w.heap.size w w' := by
  have hl := Lib.hid (bks_len h)
  rcases h1 : okBks l with _ | _
  · have HO := Lib.hid (bookF_bad (x := x) h1)
    go_enter Try.func23, Try.ntmps23
    go_wp2_with fail
    obtain ⟨wq, hwq⟩ : ∃ y, w.alloc (.cells #[.int .i64 x.day, .string x.client, .int .i64 x.amount] 45) = y := ⟨_, rfl⟩
    rw [hwq]
    have yq : Blk wq w.heap.size 45 #[.int .i64 x.day, .string x.client, .int .i64 x.amount] := by rw [← hwq]; exact Blk.new _ _ _
    have bq : Below w.heap.size w wq := by rw [← hwq]; exact (Below.refl _ _).alloc (Nat.le_refl _) _
    have zq := bq.size
    clear hwq
    refine (l25Ok_any _ n c B l wq (h.on hB bq) hn (by omega) hsm).mono ?_
    rintro e w1 ⟨rfl, b1⟩
    have z1 := b1.size
    have y1 := yq.on b1
    have H1 := Lib.hid (bnext bq b1 (Nat.le_refl _))
    have h1' := (h.on hB bq).on (by omega) b1
    clear b1 yq bq
    go_wp2
    go_ret2
    rw [HO.out]
    exact ⟨_, _, _, rfl, Sl.nil _ _ _ _ _, H1.out⟩
  · rcases h2 : okBk x with _ | _
    · have HO := Lib.hid (bookF_range h1 h2)
      go_enter Try.func23, Try.ntmps23
      go_wp2_with fail
      obtain ⟨wq, hwq⟩ : ∃ y, w.alloc (.cells #[.int .i64 x.day, .string x.client, .int .i64 x.amount] 45) = y := ⟨_, rfl⟩
      rw [hwq]
      have yq : Blk wq w.heap.size 45 #[.int .i64 x.day, .string x.client, .int .i64 x.amount] := by rw [← hwq]; exact Blk.new _ _ _
      have bq : Below w.heap.size w wq := by rw [← hwq]; exact (Below.refl _ _).alloc (Nat.le_refl _) _
      have zq := bq.size
      clear hwq
      refine (l25Ok_any _ n c B l wq (h.on hB bq) hn (by omega) hsm).mono ?_
      rintro e w1 ⟨rfl, b1⟩
      have z1 := b1.size
      have y1 := yq.on b1
      have H1 := Lib.hid (bnext bq b1 (Nat.le_refl _))
      have h1' := (h.on hB bq).on (by omega) b1
      clear b1 yq bq
      have q0 : w1.cell? ⟨w.heap.size, 0, none⟩ = some (.int .i64 x.day) := y1.cellAt 0 (by simp)
      have q1 : w1.cell? ⟨w.heap.size, 1, none⟩ = some (.string x.client) := y1.cellAt 1 (by simp)
      have q2 : w1.cell? ⟨w.heap.size, 2, none⟩ = some (.int .i64 x.amount) := y1.cellAt 2 (by simp)
      go_wp2_with fail
      refine (l25One_any x w.heap.size 0 _ hx.2.1 q0 q1 q2).mono ?_
      rintro e w2 ⟨rfl, rfl⟩
      go_wp2
      go_ret2
      rw [HO.out]
      exact ⟨_, _, _, rfl, Sl.nil _ _ _ _ _, H1.out⟩
    · by_cases hfull : 80 ≤ l.length
      · have HO := Lib.hid (bookF_full h1 h2 hfull)
        have hn80 : (80 : Int) ≤ (n : Int) := by have := hl.out; omega
        go_enter Try.func23, Try.ntmps23
        go_wp2_with fail
        obtain ⟨wq, hwq⟩ : ∃ y, w.alloc (.cells #[.int .i64 x.day, .string x.client, .int .i64 x.amount] 45) = y := ⟨_, rfl⟩
        rw [hwq]
        have yq : Blk wq w.heap.size 45 #[.int .i64 x.day, .string x.client, .int .i64 x.amount] := by rw [← hwq]; exact Blk.new _ _ _
        have bq : Below w.heap.size w wq := by rw [← hwq]; exact (Below.refl _ _).alloc (Nat.le_refl _) _
        have zq := bq.size
        clear hwq
        refine (l25Ok_any _ n c B l wq (h.on hB bq) hn (by omega) hsm).mono ?_
        rintro e w1 ⟨rfl, b1⟩
        have z1 := b1.size
        have y1 := yq.on b1
        have H1 := Lib.hid (bnext bq b1 (Nat.le_refl _))
        have h1' := (h.on hB bq).on (by omega) b1
        clear b1 yq bq
        have q0 : w1.cell? ⟨w.heap.size, 0, none⟩ = some (.int .i64 x.day) := y1.cellAt 0 (by simp)
        have q1 : w1.cell? ⟨w.heap.size, 1, none⟩ = some (.string x.client) := y1.cellAt 1 (by simp)
        have q2 : w1.cell? ⟨w.heap.size, 2, none⟩ = some (.int .i64 x.amount) := y1.cellAt 2 (by simp)
        go_wp2_with fail
        refine (l25One_any x w.heap.size 0 _ hx.2.1 q0 q1 q2).mono ?_
        rintro e w2 ⟨rfl, rfl⟩
        go_wp2
        go_ret2
        rw [HO.out]
        exact ⟨_, _, _, rfl, Sl.nil _ _ _ _ _, H1.out⟩
      · have HOk := Lib.hid (fun i (hi : cutBk l x.day = i) => bookF_ok h1 h2 hfull hi)
        have hn80 : decide ((80 : Int) ≤ (n : Int)) = false := decide_eq_false (by have := hl.out; omega)
        have hn79 : n ≤ 79 := by have := hl.out; omega
        have HK := Lib.hid h1
        go_enter Try.func23, Try.ntmps23
        go_wp2_with fail
        obtain ⟨wq, hwq⟩ : ∃ y, w.alloc (.cells #[.int .i64 x.day, .string x.client, .int .i64 x.amount] 45) = y := ⟨_, rfl⟩
        rw [hwq]
        have yq : Blk wq w.heap.size 45 #[.int .i64 x.day, .string x.client, .int .i64 x.amount] := by rw [← hwq]; exact Blk.new _ _ _
        have bq : Below w.heap.size w wq := by rw [← hwq]; exact (Below.refl _ _).alloc (Nat.le_refl _) _
        have zq := bq.size
        clear hwq
        refine (l25Ok_any _ n c B l wq (h.on hB bq) hn (by omega) hsm).mono ?_
        rintro e w1 ⟨rfl, b1⟩
        have z1 := b1.size
        have y1 := yq.on b1
        have H1 := Lib.hid (bnext bq b1 (Nat.le_refl _))
        have h1' := (h.on hB bq).on (by omega) b1
        clear b1 yq bq
        have q0 : w1.cell? ⟨w.heap.size, 0, none⟩ = some (.int .i64 x.day) := y1.cellAt 0 (by simp)
        have q1 : w1.cell? ⟨w.heap.size, 1, none⟩ = some (.string x.client) := y1.cellAt 1 (by simp)
        have q2 : w1.cell? ⟨w.heap.size, 2, none⟩ = some (.int .i64 x.amount) := y1.cellAt 2 (by simp)
        go_wp2_with fail
        refine (l25One_any x w.heap.size 0 _ hx.2.1 q0 q1 q2).mono ?_
        rintro e w2 ⟨rfl, rfl⟩
        obtain ⟨w4, rfl⟩ : ∃ y : World, y = w1 := ⟨_, rfl⟩
        have h4 := Lib.hid h1'
        have z4 : w.heap.size < w4.heap.size := World.block_lt_of_cell? _ _ q0
        have hB4 : B ≤ w4.heap.size := by omega
        clear h1' y1 z1 zq hB h
        have h2w : IntKind.i64.wrap (n : Int) = n := by rw [IntKind.wrap_i64]; omega
        go_wp2
        go_loopw [6] (fun k wr => ∃ i : Nat, i ≤ n ∧ k = .int .i64 i ∧ (∀ (j : Nat) (y : Bk), i ≤ j → l[j]? = some y → x.day < y.day) ∧ Below w4.heap.size w4 wr) (fun k _ => (intOf k).toNat)
        case atStart => exact ⟨n, Nat.le_refl _, rfl, fun j y hj hy => by have := (List.getElem?_eq_some_iff.1 hy).1; have := hl.out; omega, Below.refl _ _⟩
        case round =>
          obtain ⟨i, hi, rfl, hup, hbel⟩ := hrel
          have HU := Lib.hid hup
          have HB := Lib.hid hbel
          have p0 := cell_on hbel q0
          have p1 := cell_on hbel q1
          have p2 := cell_on hbel q2
          have hr := h4.out.on hB4 hbel
          have zr := hbel.size
          clear hup hbel q0 q1 q2
          have hw2 : IntKind.i64.wrap (i : Int) = i := by rw [IntKind.wrap_i64]; omega
          rcases Nat.eq_zero_or_pos i with h0 | h0
          · subst h0
            have hg0 : decide ((0 : Int) < ((0 : Nat) : Int)) = false := by decide
            have HO := Lib.hid (HOk.out 0 (cutBk_mk HK.out (Nat.zero_le _) HU.out (.inl rfl)))
            go_wp2_with fail
            go_quiet (fail)
            rename_i nq
            obtain ⟨wz, hwz⟩ : ∃ y, wr.drewN nq = y := ⟨_, rfl⟩
            have HBz := Lib.hid (below_drewN HB.out nq)
            have HRz := Lib.hid (hr.drewN nq)
            have r0 : (wr.drewN nq).cell? ⟨w.heap.size, 0, none⟩ = some (.int .i64 x.day) := p0
            have r1 : (wr.drewN nq).cell? ⟨w.heap.size, 1, none⟩ = some (.string x.client) := p1
            have r2 : (wr.drewN nq).cell? ⟨w.heap.size, 2, none⟩ = some (.int .i64 x.amount) := p2
            rw [hwz] at HBz HRz r0 r1 r2 ⊢
            clear hwz p0 p1 p2 hr HU HB
            have hzz : w.heap.size < wz.heap.size := World.block_lt_of_cell? _ _ r0
            have hs1 := Lib.hid (show ∀ k u, ((bks l).take (0 * 3))[k]? = some u → (wz.alloc (.cells #[] 45)).cell? ⟨g, 0 + k, none⟩ = some u from fun k u hu => by
              rw [List.getElem?_take] at hu
              split at hu
              · rw [Nat.zero_add]; exact cell_on ((Below.refl _ _).alloc (Nat.le_refl _) _) (HRz.out.src k u hu)
              · cases hu)
            have hs3 := Lib.hid (show ∀ (W : World) (A : Option Addr) (m c : Nat) (ys : List Value), Acc wz.heap.size wz.heap.size 45 3 wz W A m c ys → ∀ k u, ((bks l).drop (0 * 3))[k]? = some u → W.cell? ⟨g, 0 * 3 + k, none⟩ = some u from fun W A m c ys ha k u hu => by
              rw [List.getElem?_drop] at hu
              have hc := HRz.out.src _ u hu
              have hlt := World.block_lt_of_cell? _ _ hc
              exact (ha.cell (p := ⟨g, 0 * 3 + k, none⟩) hlt (by simp only at hlt ⊢; omega)).trans hc)
            have hl1 := Lib.hid (show ((bks l).take (0 * 3)).length = 0 * 3 by rw [List.length_take, bks_length, hl.out]; omega)
            have hl3 := Lib.hid (show ((bks l).drop (0 * 3)).length = (n - 0) * 3 by rw [List.length_drop, bks_length, hl.out]; omega)
            have hl30 := Lib.hid (show c = 0 → (bks l).drop (0 * 3) = [] from fun hc => List.drop_eq_nil_of_le (by rw [bks_length, hl.out]; omega))
            have ho1 := Lib.hid (show ∀ u ∈ (bks l).take (0 * 3), u.oneCell' = true from fun u hu => bks_one l u (List.mem_of_mem_take hu))
            have ho3 := Lib.hid (show ∀ u ∈ (bks l).drop (0 * 3), u.oneCell' = true from fun u hu => bks_one l u (List.mem_of_mem_drop hu))
            by_cases hci : c = 0
            · have hci1 : (c : Int) = 0 := by omega
              go_wp2_with (first | (at_builtin; refine wpList_accMany rfl (.tmp 33) (.tmp 36) 41 rfl 45 _ 3 32 Try.underlying41 info_bk rfl (by decide) (by decide) (Acc.made wz 45 3) (Nat.le_refl _) rfl g 0 0 _ ((bks l).take (0 * 3)) rfl hl1.out hs1.out ho1.out (by omega) ?_; intro A5 d5 w5 hacc; rw [Nat.zero_add]; rw [Nat.zero_add, List.nil_append] at hacc; replace r0 := (hacc.cell (p := ⟨w.heap.size, 0, none⟩) hzz (by simp only; omega)).trans r0; replace r1 := (hacc.cell (p := ⟨w.heap.size, 1, none⟩) hzz (by simp only; omega)).trans r1; replace r2 := (hacc.cell (p := ⟨w.heap.size, 2, none⟩) hzz (by simp only; omega)).trans r2; have HA5 := Lib.hid hacc; clear hacc) | (at_builtin; refine wpList_acc rfl (.tmp 38) (.tmp 40) 41 rfl 45 _ 3 32 Try.underlying41 info_bk rfl (by decide) (by decide) HA5.out (Nat.le_refl _) rfl [.int .i64 x.day, .string x.client, .int .i64 x.amount] rfl rfl (bk1 x) (by omega) ?_; intro A6 d6 w6 hacc; have HA6 := Lib.hid hacc; clear hacc) | (at_builtin; refine wpList_accMany rfl (.tmp 42) (.tmp 45) 41 rfl 45 _ 3 32 Try.underlying41 info_bk rfl (by decide) (by decide) HA6.out (Nat.le_refl _) rfl g 0 (n - 0) _ ((bks l).drop (0 * 3)) rfl hl3.out (fun k u hu => by rw [hl30.out hci] at hu; simp at hu) ho3.out (by omega) ?_; intro A7 d7 w7 hacc; have HA7 := Lib.hid hacc; clear hacc) | fail "app")
              go_ret2
              rw [HO.out, bks_ins]
              exact ⟨_, _, _, rfl, HA7.out.sl (by omega) (by omega), (bnext H1.out HBz.out (Nat.le_refl _)).trans (HA7.out.below (by omega) (by omega))⟩
            · go_wp2_with (first | (at_builtin; refine wpList_accMany rfl (.tmp 33) (.tmp 36) 41 rfl 45 _ 3 32 Try.underlying41 info_bk rfl (by decide) (by decide) (Acc.made wz 45 3) (Nat.le_refl _) rfl g 0 0 _ ((bks l).take (0 * 3)) rfl hl1.out hs1.out ho1.out (by omega) ?_; intro A5 d5 w5 hacc; rw [Nat.zero_add]; rw [Nat.zero_add, List.nil_append] at hacc; replace r0 := (hacc.cell (p := ⟨w.heap.size, 0, none⟩) hzz (by simp only; omega)).trans r0; replace r1 := (hacc.cell (p := ⟨w.heap.size, 1, none⟩) hzz (by simp only; omega)).trans r1; replace r2 := (hacc.cell (p := ⟨w.heap.size, 2, none⟩) hzz (by simp only; omega)).trans r2; have HA5 := Lib.hid hacc; clear hacc) | (at_builtin; refine wpList_acc rfl (.tmp 38) (.tmp 40) 41 rfl 45 _ 3 32 Try.underlying41 info_bk rfl (by decide) (by decide) HA5.out (Nat.le_refl _) rfl [.int .i64 x.day, .string x.client, .int .i64 x.amount] rfl rfl (bk1 x) (by omega) ?_; intro A6 d6 w6 hacc; have HA6 := Lib.hid hacc; clear hacc) | (at_builtin; refine wpList_accMany rfl (.tmp 42) (.tmp 45) 41 rfl 45 _ 3 32 Try.underlying41 info_bk rfl (by decide) (by decide) HA6.out (Nat.le_refl _) rfl g (0 * 3) (n - 0) _ ((bks l).drop (0 * 3)) rfl hl3.out (hs3.out _ _ _ _ _ HA6.out) ho3.out (by omega) ?_; intro A7 d7 w7 hacc; have HA7 := Lib.hid hacc; clear hacc) | fail "app")
              go_ret2
              rw [HO.out, bks_ins]
              exact ⟨_, _, _, rfl, HA7.out.sl (by omega) (by omega), (bnext H1.out HBz.out (Nat.le_refl _)).trans (HA7.out.below (by omega) (by omega))⟩

          · obtain ⟨j, rfl⟩ : ∃ j, i = j + 1 := ⟨i - 1, by omega⟩
            obtain ⟨y, b', off', hy, e2, hb', d0, d1, d2⟩ := bk_at (k := j) hr (by omega)
            injection e2 with e2; injection e2 with e2 e2'; subst e2; subst e2'
            have hj0 : (0 : Int) ≤ j := by omega
            have hj1 : (j : Int) < n := by omega
            have hg0 : decide ((0 : Int) < (j : Int) + 1) = true := decide_eq_true (by omega)
            have hw3 : IntKind.i64.wrap ((j : Int) + 1 - 1) = j := by rw [IntKind.wrap_i64]; omega
            have hw4 : IntKind.i64.wrap (j : Int) = j := by rw [IntKind.wrap_i64]; omega
            have HY := Lib.hid hy
            simp only [Nat.zero_add] at d0
            clear hy d1 d2
            by_cases hgt : x.day < y.day
            · have HN := Lib.hid (show ∀ (q : Nat) (z : Bk), j ≤ q → l[q]? = some z → x.day < z.day from fun q z hq hz => by
                rcases Nat.lt_or_ge j q with hh | hh
                · exact HU.out q z (by omega) hz
                · obtain rfl : q = j := by omega
                  rw [HY.out] at hz; injection hz with hz; subst hz
                  exact hgt)
              go_wp2_with fail
              go_quiet (fail)
              go_wp2
              go_roundw
              case rel => exact ⟨j, by omega, rfl, HN.out, below_drewN HB.out _⟩
              case measure => simp [intOf]
            · have hgt1 : decide (x.day < y.day) = false := decide_eq_false hgt
              have HO := Lib.hid (HOk.out _ (cutBk_mk (k := j + 1) HK.out (by have := hl.out; omega) HU.out (.inr ⟨y, by simpa using HY.out, by omega⟩)))
              have htn : ((j : Int) + 1).toNat = j + 1 := by omega
              have hj5 : (0 : Int) ≤ (j : Int) + 1 := by omega
              have hj6 : (j : Int) + 1 ≤ (c : Int) := by omega
              have hj7 : (j : Int) + 1 ≤ (n : Int) := by omega
              go_wp2_with fail
              go_quiet (fail)
              rename_i nq
              obtain ⟨wz, hwz⟩ : ∃ y, wr.drewN nq = y := ⟨_, rfl⟩
              have HBz := Lib.hid (below_drewN HB.out nq)
              have HRz := Lib.hid (hr.drewN nq)
              have r0 : (wr.drewN nq).cell? ⟨w.heap.size, 0, none⟩ = some (.int .i64 x.day) := p0
              have r1 : (wr.drewN nq).cell? ⟨w.heap.size, 1, none⟩ = some (.string x.client) := p1
              have r2 : (wr.drewN nq).cell? ⟨w.heap.size, 2, none⟩ = some (.int .i64 x.amount) := p2
              rw [hwz] at HBz HRz r0 r1 r2 ⊢
              clear hwz p0 p1 p2 hr HU HB
              have hzz : w.heap.size < wz.heap.size := World.block_lt_of_cell? _ _ r0
              have hs1 := Lib.hid (show ∀ k u, ((bks l).take ((j + 1) * 3))[k]? = some u → (wz.alloc (.cells #[] 45)).cell? ⟨g, 0 + k, none⟩ = some u from fun k u hu => by
                rw [List.getElem?_take] at hu
                split at hu
                · rw [Nat.zero_add]; exact cell_on ((Below.refl _ _).alloc (Nat.le_refl _) _) (HRz.out.src k u hu)
                · cases hu)
              have hs3 := Lib.hid (show ∀ (W : World) (A : Option Addr) (m c : Nat) (ys : List Value), Acc wz.heap.size wz.heap.size 45 3 wz W A m c ys → ∀ k u, ((bks l).drop ((j + 1) * 3))[k]? = some u → W.cell? ⟨g, (j + 1) * 3 + k, none⟩ = some u from fun W A m c ys ha k u hu => by
                rw [List.getElem?_drop] at hu
                have hc := HRz.out.src _ u hu
                have hlt := World.block_lt_of_cell? _ _ hc
                exact (ha.cell (p := ⟨g, (j + 1) * 3 + k, none⟩) hlt (by simp only at hlt ⊢; omega)).trans hc)
              have hl1 := Lib.hid (show ((bks l).take ((j + 1) * 3)).length = (j + 1) * 3 by rw [List.length_take, bks_length, hl.out]; omega)
              have hl3 := Lib.hid (show ((bks l).drop ((j + 1) * 3)).length = (n - (j + 1)) * 3 by rw [List.length_drop, bks_length, hl.out]; omega)
              have hl30 := Lib.hid (show c = (j + 1) → (bks l).drop ((j + 1) * 3) = [] from fun hc => List.drop_eq_nil_of_le (by rw [bks_length, hl.out]; omega))
              have ho1 := Lib.hid (show ∀ u ∈ (bks l).take ((j + 1) * 3), u.oneCell' = true from fun u hu => bks_one l u (List.mem_of_mem_take hu))
              have ho3 := Lib.hid (show ∀ u ∈ (bks l).drop ((j + 1) * 3), u.oneCell' = true from fun u hu => bks_one l u (List.mem_of_mem_drop hu))
              by_cases hci : c = (j + 1)
              · have hci1 : (c : Int) = (j : Int) + 1 := by omega
                go_wp2_with (first | (at_builtin; refine wpList_accMany rfl (.tmp 33) (.tmp 36) 41 rfl 45 _ 3 32 Try.underlying41 info_bk rfl (by decide) (by decide) (Acc.made wz 45 3) (Nat.le_refl _) rfl g 0 (j + 1) _ ((bks l).take ((j + 1) * 3)) rfl hl1.out hs1.out ho1.out (by omega) ?_; intro A5 d5 w5 hacc; rw [Nat.zero_add]; rw [Nat.zero_add, List.nil_append] at hacc; replace r0 := (hacc.cell (p := ⟨w.heap.size, 0, none⟩) hzz (by simp only; omega)).trans r0; replace r1 := (hacc.cell (p := ⟨w.heap.size, 1, none⟩) hzz (by simp only; omega)).trans r1; replace r2 := (hacc.cell (p := ⟨w.heap.size, 2, none⟩) hzz (by simp only; omega)).trans r2; have HA5 := Lib.hid hacc; clear hacc) | (at_builtin; refine wpList_acc rfl (.tmp 38) (.tmp 40) 41 rfl 45 _ 3 32 Try.underlying41 info_bk rfl (by decide) (by decide) HA5.out (Nat.le_refl _) rfl [.int .i64 x.day, .string x.client, .int .i64 x.amount] rfl rfl (bk1 x) (by omega) ?_; intro A6 d6 w6 hacc; have HA6 := Lib.hid hacc; clear hacc) | (at_builtin; refine wpList_accMany rfl (.tmp 42) (.tmp 45) 41 rfl 45 _ 3 32 Try.underlying41 info_bk rfl (by decide) (by decide) HA6.out (Nat.le_refl _) rfl g 0 (n - (j + 1)) _ ((bks l).drop ((j + 1) * 3)) rfl hl3.out (fun k u hu => by rw [hl30.out hci] at hu; simp at hu) ho3.out (by omega) ?_; intro A7 d7 w7 hacc; have HA7 := Lib.hid hacc; clear hacc) | fail "app")
                go_ret2
                rw [HO.out, bks_ins]
                exact ⟨_, _, _, rfl, HA7.out.sl (by omega) (by omega), (bnext H1.out HBz.out (Nat.le_refl _)).trans (HA7.out.below (by omega) (by omega))⟩
              · go_wp2_with (first | (at_builtin; refine wpList_accMany rfl (.tmp 33) (.tmp 36) 41 rfl 45 _ 3 32 Try.underlying41 info_bk rfl (by decide) (by decide) (Acc.made wz 45 3) (Nat.le_refl _) rfl g 0 (j + 1) _ ((bks l).take ((j + 1) * 3)) rfl hl1.out hs1.out ho1.out (by omega) ?_; intro A5 d5 w5 hacc; rw [Nat.zero_add]; rw [Nat.zero_add, List.nil_append] at hacc; replace r0 := (hacc.cell (p := ⟨w.heap.size, 0, none⟩) hzz (by simp only; omega)).trans r0; replace r1 := (hacc.cell (p := ⟨w.heap.size, 1, none⟩) hzz (by simp only; omega)).trans r1; replace r2 := (hacc.cell (p := ⟨w.heap.size, 2, none⟩) hzz (by simp only; omega)).trans r2; have HA5 := Lib.hid hacc; clear hacc) | (at_builtin; refine wpList_acc rfl (.tmp 38) (.tmp 40) 41 rfl 45 _ 3 32 Try.underlying41 info_bk rfl (by decide) (by decide) HA5.out (Nat.le_refl _) rfl [.int .i64 x.day, .string x.client, .int .i64 x.amount] rfl rfl (bk1 x) (by omega) ?_; intro A6 d6 w6 hacc; have HA6 := Lib.hid hacc; clear hacc) | (at_builtin; refine wpList_accMany rfl (.tmp 42) (.tmp 45) 41 rfl 45 _ 3 32 Try.underlying41 info_bk rfl (by decide) (by decide) HA6.out (Nat.le_refl _) rfl g ((j + 1) * 3) (n - (j + 1)) _ ((bks l).drop ((j + 1) * 3)) rfl hl3.out (hs3.out _ _ _ _ _ HA6.out) ho3.out (by omega) ?_; intro A7 d7 w7 hacc; have HA7 := Lib.hid hacc; clear hacc) | fail "app")
                go_ret2
                rw [HO.out, bks_ins]
                exact ⟨_, _, _, rfl, HA7.out.sl (by omega) (by omega), (bnext H1.out HBz.out (Nat.le_refl _)).trans (HA7.out.below (by omega) (by omega))⟩

end Go.Proofs.Ytnlghcpidlpfkaa
