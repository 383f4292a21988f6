/- Clients: a client added, as the reference says it. -/
import Derived.Test.YtnlghcpidlpfkaaClR
import Derived.Test.YtnlghcpidlpfkaaClH
set_option linter.unusedVariables false
set_option linter.unusedSimpArgs false
namespace Go.Proofs.Ytnlghcpidlpfkaa
open Go.RowKit

theorem Reads.src {w : World} {B size n g : Nat} {xs : List Value} (h : Reads w B size (some ⟨g, 0, none⟩) n xs) : ∀ j u, xs[j]? = some u → w.cell? ⟨g, j, none⟩ = some u := fun j u hu => by
  rcases Nat.eq_zero_or_pos n with h0 | h0
  · have := h.1
    rw [h0, Nat.zero_mul] at this
    rw [List.length_eq_zero_iff.1 this] at hu; simp at hu
  · obtain ⟨b, off, e, _, hc⟩ := h.at_ h0
    injection e with e; injection e with e e'; subst e; subst e'
    have := hc j u hu
    rwa [Nat.zero_add] at this
theorem Reads.drewN {w : World} {B size n : Nat} {A : Option Addr} {xs : List Value} (h : Reads w B size A n xs) (m : Nat) : Reads (w.drewN m) B size A n xs := h.keep fun _ _ => rfl
theorem cl1' (x : Cl) : ∀ u ∈ cellsCl x, u.oneCell' = true := fun u hu => cls_one [x] u (by simpa [cls] using hu)

set_option maxHeartbeats 4000000 in
set_option maxRecDepth 100000 in
theorem specAddClient_any (g n c : Nat) (l : List Cl) (x : Cl) (B : Nat) (w : World) (h : Reads w B 5 (some ⟨g, 0, none⟩) n (cls l)) (hB : B ≤ w.heap.size) (hn : n ≤ 1048576) (hsm : ∀ x ∈ l, x.small) (hgd : ∀ x ∈ l, x.good) (hx : x.good) (hxs : x.small) (hnc : n ≤ c := by omega) :
    Calls Try.prog 14 #[.slice (some ⟨g, 0, none⟩) n c, .agg #[.string x.name, .int .i64 x.station, .int .i64 x.from_, .int .i64 x.to_, .int .i64 x.quota]] w fun e w' => ∃ A' m c', e = .returned (.tuple #[.slice A' m c', .int .i64 (addF l x).2]) ∧ Sl w' w.heap.size w'.heap.size 31 5 A' m c' (cls (addF l x).1) ∧ Below w.heap.size w w' := by
  have hl := Lib.hid (cls_len h)
  rcases h1 : okCls l with _ | _
  · have HO := Lib.hid (addF_bad (x := x) h1)
    go_enter Try.func14, Try.ntmps14
    go_wp2_with fail
    obtain ⟨wq, hwq⟩ : ∃ y, w.alloc (.cells #[.string x.name, .int .i64 x.station, .int .i64 x.from_, .int .i64 x.to_, .int .i64 x.quota] 31) = y := ⟨_, rfl⟩
    rw [hwq]
    have yq : Blk wq w.heap.size 31 #[.string x.name, .int .i64 x.station, .int .i64 x.from_, .int .i64 x.to_, .int .i64 x.quota] := by rw [← hwq]; exact Blk.new _ _ _
    have bq : Below w.heap.size w wq := by rw [← hwq]; exact (Below.refl _ _).alloc (Nat.le_refl _) _
    have zq := bq.size
    clear hwq
    refine (l24Ok_any _ n c l B wq (h.on hB bq) (by omega) hn hsm hgd).mono ?_
    rintro e w1 ⟨rfl, b1⟩
    have z1 := b1.size
    have y1 := yq.on b1
    have H1 := Lib.hid (bnext bq b1 (Nat.le_refl _))
    have h1' := (h.on hB bq).on (by omega) b1
    clear b1 yq bq
    go_wp2
    go_ret2
    rw [HO.out]
    exact ⟨_, _, _, rfl, Sl.nil _ _ _ _ _, H1.out⟩
  · rcases h2 : okCl x with _ | _
    · have HO := Lib.hid (addF_range h1 h2)
      go_enter Try.func14, Try.ntmps14
      go_wp2_with fail
      obtain ⟨wq, hwq⟩ : ∃ y, w.alloc (.cells #[.string x.name, .int .i64 x.station, .int .i64 x.from_, .int .i64 x.to_, .int .i64 x.quota] 31) = y := ⟨_, rfl⟩
      rw [hwq]
      have yq : Blk wq w.heap.size 31 #[.string x.name, .int .i64 x.station, .int .i64 x.from_, .int .i64 x.to_, .int .i64 x.quota] := by rw [← hwq]; exact Blk.new _ _ _
      have bq : Below w.heap.size w wq := by rw [← hwq]; exact (Below.refl _ _).alloc (Nat.le_refl _) _
      have zq := bq.size
      clear hwq
      refine (l24Ok_any _ n c l B wq (h.on hB bq) (by omega) hn hsm hgd).mono ?_
      rintro e w1 ⟨rfl, b1⟩
      have z1 := b1.size
      have y1 := yq.on b1
      have H1 := Lib.hid (bnext bq b1 (Nat.le_refl _))
      have h1' := (h.on hB bq).on (by omega) b1
      clear b1 yq bq
      have q0 : w1.cell? ⟨w.heap.size, 0, none⟩ = some (.string x.name) := y1.cellAt 0 (by simp)
      have q1 : w1.cell? ⟨w.heap.size, 1, none⟩ = some (.int .i64 x.station) := y1.cellAt 1 (by simp)
      have q2 : w1.cell? ⟨w.heap.size, 2, none⟩ = some (.int .i64 x.from_) := y1.cellAt 2 (by simp)
      have q3 : w1.cell? ⟨w.heap.size, 3, none⟩ = some (.int .i64 x.to_) := y1.cellAt 3 (by simp)
      have q4 : w1.cell? ⟨w.heap.size, 4, none⟩ = some (.int .i64 x.quota) := y1.cellAt 4 (by simp)
      go_wp2_with fail
      refine (l24One_any x w.heap.size 0 _ hx.1 hx q0 q1 q2 q3 q4).mono ?_
      rintro e w2 ⟨rfl, m2, rfl⟩
      go_wp2
      go_ret2
      rw [HO.out]
      exact ⟨_, _, _, rfl, Sl.nil _ _ _ _ _, (below_drewN H1.out m2)⟩
    · by_cases hp : placeOf l x.name < 0
      · have hp1 : decide (0 ≤ placeOf l x.name) = false := decide_eq_false (by omega)
        by_cases hfull : 30 ≤ l.length
        · have HO := Lib.hid (addF_full h1 h2 hp hfull)
          have hn30 : (30 : Int) ≤ (n : Int) := by have := hl.out; omega
          go_enter Try.func14, Try.ntmps14
          go_wp2_with fail
          obtain ⟨wq, hwq⟩ : ∃ y, w.alloc (.cells #[.string x.name, .int .i64 x.station, .int .i64 x.from_, .int .i64 x.to_, .int .i64 x.quota] 31) = y := ⟨_, rfl⟩
          rw [hwq]
          have yq : Blk wq w.heap.size 31 #[.string x.name, .int .i64 x.station, .int .i64 x.from_, .int .i64 x.to_, .int .i64 x.quota] := by rw [← hwq]; exact Blk.new _ _ _
          have bq : Below w.heap.size w wq := by rw [← hwq]; exact (Below.refl _ _).alloc (Nat.le_refl _) _
          have zq := bq.size
          clear hwq
          refine (l24Ok_any _ n c l B wq (h.on hB bq) (by omega) hn hsm hgd).mono ?_
          rintro e w1 ⟨rfl, b1⟩
          have z1 := b1.size
          have y1 := yq.on b1
          have H1 := Lib.hid (bnext bq b1 (Nat.le_refl _))
          have h1' := (h.on hB bq).on (by omega) b1
          clear b1 yq bq
          have q0 : w1.cell? ⟨w.heap.size, 0, none⟩ = some (.string x.name) := y1.cellAt 0 (by simp)
          have q1 : w1.cell? ⟨w.heap.size, 1, none⟩ = some (.int .i64 x.station) := y1.cellAt 1 (by simp)
          have q2 : w1.cell? ⟨w.heap.size, 2, none⟩ = some (.int .i64 x.from_) := y1.cellAt 2 (by simp)
          have q3 : w1.cell? ⟨w.heap.size, 3, none⟩ = some (.int .i64 x.to_) := y1.cellAt 3 (by simp)
          have q4 : w1.cell? ⟨w.heap.size, 4, none⟩ = some (.int .i64 x.quota) := y1.cellAt 4 (by simp)
          go_wp2_with fail
          refine (l24One_any x w.heap.size 0 _ hx.1 hx q0 q1 q2 q3 q4).mono ?_
          rintro e w2 ⟨rfl, m2, rfl⟩
          go_wp2_with fail
          refine (l24Find_any _ n c l x.name B _ (h1'.drewN m2) hn).mono ?_
          rintro e w3 ⟨rfl, rfl⟩
          go_wp2
          go_ret2
          rw [HO.out]
          exact ⟨_, _, _, rfl, Sl.nil _ _ _ _ _, (below_drewN H1.out m2)⟩
        · have HOk := Lib.hid (fun i (hi : PlaceAt l x.name i) => addF_ok h1 h2 hp hfull hi)
          have hn30 : decide ((30 : Int) ≤ (n : Int)) = false := decide_eq_false (by have := hl.out; omega)
          have hn29 : n ≤ 29 := by have := hl.out; omega
          have HK := Lib.hid h1
          have HP := Lib.hid hp
          go_enter Try.func14, Try.ntmps14
          go_wp2_with fail
          obtain ⟨wq, hwq⟩ : ∃ y, w.alloc (.cells #[.string x.name, .int .i64 x.station, .int .i64 x.from_, .int .i64 x.to_, .int .i64 x.quota] 31) = y := ⟨_, rfl⟩
          rw [hwq]
          have yq : Blk wq w.heap.size 31 #[.string x.name, .int .i64 x.station, .int .i64 x.from_, .int .i64 x.to_, .int .i64 x.quota] := by rw [← hwq]; exact Blk.new _ _ _
          have bq : Below w.heap.size w wq := by rw [← hwq]; exact (Below.refl _ _).alloc (Nat.le_refl _) _
          have zq := bq.size
          clear hwq
          refine (l24Ok_any _ n c l B wq (h.on hB bq) (by omega) hn hsm hgd).mono ?_
          rintro e w1 ⟨rfl, b1⟩
          have z1 := b1.size
          have y1 := yq.on b1
          have H1 := Lib.hid (bnext bq b1 (Nat.le_refl _))
          have h1' := (h.on hB bq).on (by omega) b1
          clear b1 yq bq
          have q0 : w1.cell? ⟨w.heap.size, 0, none⟩ = some (.string x.name) := y1.cellAt 0 (by simp)
          have q1 : w1.cell? ⟨w.heap.size, 1, none⟩ = some (.int .i64 x.station) := y1.cellAt 1 (by simp)
          have q2 : w1.cell? ⟨w.heap.size, 2, none⟩ = some (.int .i64 x.from_) := y1.cellAt 2 (by simp)
          have q3 : w1.cell? ⟨w.heap.size, 3, none⟩ = some (.int .i64 x.to_) := y1.cellAt 3 (by simp)
          have q4 : w1.cell? ⟨w.heap.size, 4, none⟩ = some (.int .i64 x.quota) := y1.cellAt 4 (by simp)
          go_wp2_with fail
          refine (l24One_any x w.heap.size 0 _ hx.1 hx q0 q1 q2 q3 q4).mono ?_
          rintro e w2 ⟨rfl, m2, rfl⟩
          go_wp2_with fail
          refine (l24Find_any _ n c l x.name B _ (h1'.drewN m2) hn).mono ?_
          rintro e w3 ⟨rfl, rfl⟩
          obtain ⟨w4, hw4⟩ : ∃ y, w1.drewN m2 = y := ⟨_, rfl⟩
          have h4 := Lib.hid (h1'.drewN m2)
          have H4 := Lib.hid (below_drewN H1.out m2)
          replace q0 : (w1.drewN m2).cell? ⟨w.heap.size, 0, none⟩ = some (.string x.name) := q0
          replace q1 : (w1.drewN m2).cell? ⟨w.heap.size, 1, none⟩ = some (.int .i64 x.station) := q1
          replace q2 : (w1.drewN m2).cell? ⟨w.heap.size, 2, none⟩ = some (.int .i64 x.from_) := q2
          replace q3 : (w1.drewN m2).cell? ⟨w.heap.size, 3, none⟩ = some (.int .i64 x.to_) := q3
          replace q4 : (w1.drewN m2).cell? ⟨w.heap.size, 4, none⟩ = some (.int .i64 x.quota) := q4
          have z4 : w.heap.size < (w1.drewN m2).heap.size := World.block_lt_of_cell? _ _ q0
          have hB4 : B ≤ (w1.drewN m2).heap.size := by omega
          rw [hw4] at h4 H4 q0 q1 q2 q3 q4 z4 hB4 ⊢
          clear hw4 h1' H1 y1 z1 zq hB h
          have h2w : IntKind.i64.wrap (n : Int) = n := by rw [IntKind.wrap_i64]; omega
          go_wp2
          go_loopw [6] (fun k wr => ∃ i : Nat, i ≤ n ∧ k = .int .i64 i ∧ (∀ (j : Nat) (y : Cl), i ≤ j → l[j]? = some y → sless y.name x.name = false) ∧ Below w4.heap.size w4 wr) (fun k _ => (intOf k).toNat)
          case atStart => exact ⟨n, Nat.le_refl _, rfl, fun j y hj hy => by have := (List.getElem?_eq_some_iff.1 hy).1; have := hl.out; omega, Below.refl _ _⟩
          case round =>
            obtain ⟨i, hi, rfl, hup, hbel⟩ := hrel
            have HU := Lib.hid hup
            have HB := Lib.hid hbel
            have p0 := cell_on hbel q0
            have p1 := cell_on hbel q1
            have p2 := cell_on hbel q2
            have p3 := cell_on hbel q3
            have p4 := cell_on hbel q4
            have hr := h4.out.on hB4 hbel
            have zr := hbel.size
            clear hup hbel q0 q1 q2 q3 q4
            have hw2 : IntKind.i64.wrap (i : Int) = i := by rw [IntKind.wrap_i64]; omega
            rcases Nat.eq_zero_or_pos i with h0 | h0
            · subst h0
              have hg0 : decide ((0 : Int) < ((0 : Nat) : Int)) = false := by decide
              have HPl := Lib.hid (placeAt_mk HK.out (Nat.zero_le _) HU.out (.inl rfl))
              have HO := Lib.hid (HOk.out 0 HPl.out)
              go_wp2_with fail
              go_quiet (fail)
              rename_i nq
              obtain ⟨wz, hwz⟩ : ∃ y, wr.drewN nq = y := ⟨_, rfl⟩
              have HBz := Lib.hid (below_drewN HB.out nq)
              have HRz := Lib.hid (hr.drewN nq)
              have r0 : (wr.drewN nq).cell? ⟨w.heap.size, 0, none⟩ = some (.string x.name) := p0
              have r1 : (wr.drewN nq).cell? ⟨w.heap.size, 1, none⟩ = some (.int .i64 x.station) := p1
              have r2 : (wr.drewN nq).cell? ⟨w.heap.size, 2, none⟩ = some (.int .i64 x.from_) := p2
              have r3 : (wr.drewN nq).cell? ⟨w.heap.size, 3, none⟩ = some (.int .i64 x.to_) := p3
              have r4 : (wr.drewN nq).cell? ⟨w.heap.size, 4, none⟩ = some (.int .i64 x.quota) := p4
              rw [hwz] at HBz HRz r0 r1 r2 r3 r4 ⊢
              clear hwz p0 p1 p2 p3 p4 hr HU HB
              have hzz : w.heap.size < wz.heap.size := World.block_lt_of_cell? _ _ r0
              have hs1 := Lib.hid (show ∀ k u, ((cls l).take (0 * 5))[k]? = some u → (wz.alloc (.cells #[] 31)).cell? ⟨g, 0 + k, none⟩ = some u from fun k u hu => by
                rw [List.getElem?_take] at hu
                split at hu
                · rw [Nat.zero_add]; exact cell_on ((Below.refl _ _).alloc (Nat.le_refl _) _) (HRz.out.src k u hu)
                · cases hu)
              have hs3 := Lib.hid (show ∀ (W : World) (A : Option Addr) (m c : Nat) (ys : List Value), Acc wz.heap.size wz.heap.size 31 5 wz W A m c ys → ∀ k u, ((cls l).drop (0 * 5))[k]? = some u → W.cell? ⟨g, 0 * 5 + k, none⟩ = some u from fun W A m c ys ha k u hu => by
                rw [List.getElem?_drop] at hu
                have hc := HRz.out.src _ u hu
                have hlt := World.block_lt_of_cell? _ _ hc
                exact (ha.cell (p := ⟨g, 0 * 5 + k, none⟩) hlt (by simp only at hlt ⊢; omega)).trans hc)
              have hl1 := Lib.hid (show ((cls l).take (0 * 5)).length = 0 * 5 by rw [List.length_take, cls_length, hl.out]; omega)
              have hl3 := Lib.hid (show ((cls l).drop (0 * 5)).length = (n - 0) * 5 by rw [List.length_drop, cls_length, hl.out]; omega)
              have hl30 := Lib.hid (show c = 0 → (cls l).drop (0 * 5) = [] from fun hc => List.drop_eq_nil_of_le (by rw [cls_length, hl.out]; omega))
              have ho1 := Lib.hid (show ∀ u ∈ (cls l).take (0 * 5), u.oneCell' = true from fun u hu => cls_one l u (List.mem_of_mem_take hu))
              have ho3 := Lib.hid (show ∀ u ∈ (cls l).drop (0 * 5), u.oneCell' = true from fun u hu => cls_one l u (List.mem_of_mem_drop hu))
              by_cases hci : c = 0
              · have hci1 : (c : Int) = 0 := by omega
                go_wp2_with (first | (at_builtin; refine wpList_accMany rfl (.tmp 38) (.tmp 41) 27 rfl 31 _ 5 48 Try.underlying27 info_cl rfl (by decide) (by decide) (Acc.made wz 31 5) (Nat.le_refl _) rfl g 0 0 _ ((cls l).take (0 * 5)) rfl hl1.out hs1.out ho1.out (by omega) ?_; intro A5 d5 w5 hacc; rw [Nat.zero_add]; rw [Nat.zero_add, List.nil_append] at hacc; replace r0 := (hacc.cell (p := ⟨w.heap.size, 0, none⟩) hzz (by simp only; omega)).trans r0; replace r1 := (hacc.cell (p := ⟨w.heap.size, 1, none⟩) hzz (by simp only; omega)).trans r1; replace r2 := (hacc.cell (p := ⟨w.heap.size, 2, none⟩) hzz (by simp only; omega)).trans r2; replace r3 := (hacc.cell (p := ⟨w.heap.size, 3, none⟩) hzz (by simp only; omega)).trans r3; replace r4 := (hacc.cell (p := ⟨w.heap.size, 4, none⟩) hzz (by simp only; omega)).trans r4; have HA5 := Lib.hid hacc; clear hacc) | (at_builtin; refine wpList_acc rfl (.tmp 43) (.tmp 45) 27 rfl 31 _ 5 48 Try.underlying27 info_cl rfl (by decide) (by decide) HA5.out (Nat.le_refl _) rfl [.string x.name, .int .i64 x.station, .int .i64 x.from_, .int .i64 x.to_, .int .i64 x.quota] rfl rfl (cl1' x) (by omega) ?_; intro A6 d6 w6 hacc; have HA6 := Lib.hid hacc; clear hacc) | (at_builtin; refine wpList_accMany rfl (.tmp 47) (.tmp 50) 27 rfl 31 _ 5 48 Try.underlying27 info_cl rfl (by decide) (by decide) HA6.out (Nat.le_refl _) rfl g 0 (n - 0) _ ((cls l).drop (0 * 5)) rfl hl3.out (fun k u hu => by rw [hl30.out hci] at hu; simp at hu) ho3.out (by omega) ?_; intro A7 d7 w7 hacc; have HA7 := Lib.hid hacc; clear hacc) | fail "app")
                go_ret2
                rw [HO.out, cls_ins]
                exact ⟨_, _, _, rfl, HA7.out.sl (by omega) (by omega), (bnext H4.out HBz.out (Nat.le_refl _)).trans (HA7.out.below (by omega) (by omega))⟩
              · go_wp2_with (first | (at_builtin; refine wpList_accMany rfl (.tmp 38) (.tmp 41) 27 rfl 31 _ 5 48 Try.underlying27 info_cl rfl (by decide) (by decide) (Acc.made wz 31 5) (Nat.le_refl _) rfl g 0 0 _ ((cls l).take (0 * 5)) rfl hl1.out hs1.out ho1.out (by omega) ?_; intro A5 d5 w5 hacc; rw [Nat.zero_add]; rw [Nat.zero_add, List.nil_append] at hacc; replace r0 := (hacc.cell (p := ⟨w.heap.size, 0, none⟩) hzz (by simp only; omega)).trans r0; replace r1 := (hacc.cell (p := ⟨w.heap.size, 1, none⟩) hzz (by simp only; omega)).trans r1; replace r2 := (hacc.cell (p := ⟨w.heap.size, 2, none⟩) hzz (by simp only; omega)).trans r2; replace r3 := (hacc.cell (p := ⟨w.heap.size, 3, none⟩) hzz (by simp only; omega)).trans r3; replace r4 := (hacc.cell (p := ⟨w.heap.size, 4, none⟩) hzz (by simp only; omega)).trans r4; have HA5 := Lib.hid hacc; clear hacc) | (at_builtin; refine wpList_acc rfl (.tmp 43) (.tmp 45) 27 rfl 31 _ 5 48 Try.underlying27 info_cl rfl (by decide) (by decide) HA5.out (Nat.le_refl _) rfl [.string x.name, .int .i64 x.station, .int .i64 x.from_, .int .i64 x.to_, .int .i64 x.quota] rfl rfl (cl1' x) (by omega) ?_; intro A6 d6 w6 hacc; have HA6 := Lib.hid hacc; clear hacc) | (at_builtin; refine wpList_accMany rfl (.tmp 47) (.tmp 50) 27 rfl 31 _ 5 48 Try.underlying27 info_cl rfl (by decide) (by decide) HA6.out (Nat.le_refl _) rfl g (0 * 5) (n - 0) _ ((cls l).drop (0 * 5)) rfl hl3.out (hs3.out _ _ _ _ _ HA6.out) ho3.out (by omega) ?_; intro A7 d7 w7 hacc; have HA7 := Lib.hid hacc; clear hacc) | fail "app")
                go_ret2
                rw [HO.out, cls_ins]
                exact ⟨_, _, _, rfl, HA7.out.sl (by omega) (by omega), (bnext H4.out HBz.out (Nat.le_refl _)).trans (HA7.out.below (by omega) (by omega))⟩

            · obtain ⟨j, rfl⟩ : ∃ j, i = j + 1 := ⟨i - 1, by omega⟩
              obtain ⟨y, b', off', hy, e2, hb', d0, d1, d2, d3, d4⟩ := cl_at (k := j) hr (by omega)
              injection e2 with e2; injection e2 with e2 e2'; subst e2; subst e2'
              have hj0 : (0 : Int) ≤ j := by omega
              have hj1 : (j : Int) < n := by omega
              have hg0 : decide ((0 : Int) < (j : Int) + 1) = true := decide_eq_true (by omega)
              have hw3 : IntKind.i64.wrap ((j : Int) + 1 - 1) = j := by rw [IntKind.wrap_i64]; omega
              have hw4 : IntKind.i64.wrap (j : Int) = j := by rw [IntKind.wrap_i64]; omega
              have HY := Lib.hid hy
              simp only [Nat.zero_add] at d0
              clear hy d1 d2 d3 d4
              have hne : (y.name.toList == x.name.toList) = false := by
                rcases hq : (y.name.toList == x.name.toList) with _ | _
                · rfl
                · have h9 := idxI_nonneg (hit x.name) l
                  rw [any_of HY.out (show hit x.name y = true from hq)] at h9
                  have h9 := of_decide_eq_true h9
                  have hp9 := HP.out
                  unfold placeOf at hp9
                  omega
              rcases hgt : Op.bytesLess y.name.toList x.name.toList with _ | _
              · have HN := Lib.hid (show ∀ (q : Nat) (z : Cl), j ≤ q → l[q]? = some z → sless z.name x.name = false from fun q z hq hz => by
                  rcases Nat.lt_or_ge j q with hh | hh
                  · exact HU.out q z (by omega) hz
                  · obtain rfl : q = j := by omega
                    rw [HY.out] at hz; injection hz with hz; subst hz
                    exact hgt)
                go_wp2_with fail
                go_quiet (fail)
                go_wp2
                go_roundw
                case rel => exact ⟨j, by omega, rfl, HN.out, below_drewN HB.out _⟩
                case measure => simp [intOf]
              · have HPl := Lib.hid (placeAt_mk (k := j + 1) HK.out (by have := hl.out; omega) HU.out (.inr ⟨y, by simpa using HY.out, hgt⟩))
                have HO := Lib.hid (HOk.out _ HPl.out)
                have htn : ((j : Int) + 1).toNat = j + 1 := by omega
                have hj5 : (0 : Int) ≤ (j : Int) + 1 := by omega
                have hj6 : (j : Int) + 1 ≤ (c : Int) := by omega
                have hj7 : (j : Int) + 1 ≤ (n : Int) := by omega
                go_wp2_with fail
                go_quiet (fail)
                rename_i nq
                obtain ⟨wz, hwz⟩ : ∃ y, wr.drewN nq = y := ⟨_, rfl⟩
                have HBz := Lib.hid (below_drewN HB.out nq)
                have HRz := Lib.hid (hr.drewN nq)
                have r0 : (wr.drewN nq).cell? ⟨w.heap.size, 0, none⟩ = some (.string x.name) := p0
                have r1 : (wr.drewN nq).cell? ⟨w.heap.size, 1, none⟩ = some (.int .i64 x.station) := p1
                have r2 : (wr.drewN nq).cell? ⟨w.heap.size, 2, none⟩ = some (.int .i64 x.from_) := p2
                have r3 : (wr.drewN nq).cell? ⟨w.heap.size, 3, none⟩ = some (.int .i64 x.to_) := p3
                have r4 : (wr.drewN nq).cell? ⟨w.heap.size, 4, none⟩ = some (.int .i64 x.quota) := p4
                rw [hwz] at HBz HRz r0 r1 r2 r3 r4 ⊢
                clear hwz p0 p1 p2 p3 p4 hr HU HB
                have hzz : w.heap.size < wz.heap.size := World.block_lt_of_cell? _ _ r0
                have hs1 := Lib.hid (show ∀ k u, ((cls l).take ((j + 1) * 5))[k]? = some u → (wz.alloc (.cells #[] 31)).cell? ⟨g, 0 + k, none⟩ = some u from fun k u hu => by
                  rw [List.getElem?_take] at hu
                  split at hu
                  · rw [Nat.zero_add]; exact cell_on ((Below.refl _ _).alloc (Nat.le_refl _) _) (HRz.out.src k u hu)
                  · cases hu)
                have hs3 := Lib.hid (show ∀ (W : World) (A : Option Addr) (m c : Nat) (ys : List Value), Acc wz.heap.size wz.heap.size 31 5 wz W A m c ys → ∀ k u, ((cls l).drop ((j + 1) * 5))[k]? = some u → W.cell? ⟨g, (j + 1) * 5 + k, none⟩ = some u from fun W A m c ys ha k u hu => by
                  rw [List.getElem?_drop] at hu
                  have hc := HRz.out.src _ u hu
                  have hlt := World.block_lt_of_cell? _ _ hc
                  exact (ha.cell (p := ⟨g, (j + 1) * 5 + k, none⟩) hlt (by simp only at hlt ⊢; omega)).trans hc)
                have hl1 := Lib.hid (show ((cls l).take ((j + 1) * 5)).length = (j + 1) * 5 by rw [List.length_take, cls_length, hl.out]; omega)
                have hl3 := Lib.hid (show ((cls l).drop ((j + 1) * 5)).length = (n - (j + 1)) * 5 by rw [List.length_drop, cls_length, hl.out]; omega)
                have hl30 := Lib.hid (show c = (j + 1) → (cls l).drop ((j + 1) * 5) = [] from fun hc => List.drop_eq_nil_of_le (by rw [cls_length, hl.out]; omega))
                have ho1 := Lib.hid (show ∀ u ∈ (cls l).take ((j + 1) * 5), u.oneCell' = true from fun u hu => cls_one l u (List.mem_of_mem_take hu))
                have ho3 := Lib.hid (show ∀ u ∈ (cls l).drop ((j + 1) * 5), u.oneCell' = true from fun u hu => cls_one l u (List.mem_of_mem_drop hu))
                by_cases hci : c = (j + 1)
                · have hci1 : (c : Int) = (j : Int) + 1 := by omega
                  go_wp2_with (first | (at_builtin; refine wpList_accMany rfl (.tmp 38) (.tmp 41) 27 rfl 31 _ 5 48 Try.underlying27 info_cl rfl (by decide) (by decide) (Acc.made wz 31 5) (Nat.le_refl _) rfl g 0 (j + 1) _ ((cls l).take ((j + 1) * 5)) rfl hl1.out hs1.out ho1.out (by omega) ?_; intro A5 d5 w5 hacc; rw [Nat.zero_add]; rw [Nat.zero_add, List.nil_append] at hacc; replace r0 := (hacc.cell (p := ⟨w.heap.size, 0, none⟩) hzz (by simp only; omega)).trans r0; replace r1 := (hacc.cell (p := ⟨w.heap.size, 1, none⟩) hzz (by simp only; omega)).trans r1; replace r2 := (hacc.cell (p := ⟨w.heap.size, 2, none⟩) hzz (by simp only; omega)).trans r2; replace r3 := (hacc.cell (p := ⟨w.heap.size, 3, none⟩) hzz (by simp only; omega)).trans r3; replace r4 := (hacc.cell (p := ⟨w.heap.size, 4, none⟩) hzz (by simp only; omega)).trans r4; have HA5 := Lib.hid hacc; clear hacc) | (at_builtin; refine wpList_acc rfl (.tmp 43) (.tmp 45) 27 rfl 31 _ 5 48 Try.underlying27 info_cl rfl (by decide) (by decide) HA5.out (Nat.le_refl _) rfl [.string x.name, .int .i64 x.station, .int .i64 x.from_, .int .i64 x.to_, .int .i64 x.quota] rfl rfl (cl1' x) (by omega) ?_; intro A6 d6 w6 hacc; have HA6 := Lib.hid hacc; clear hacc) | (at_builtin; refine wpList_accMany rfl (.tmp 47) (.tmp 50) 27 rfl 31 _ 5 48 Try.underlying27 info_cl rfl (by decide) (by decide) HA6.out (Nat.le_refl _) rfl g 0 (n - (j + 1)) _ ((cls l).drop ((j + 1) * 5)) rfl hl3.out (fun k u hu => by rw [hl30.out hci] at hu; simp at hu) ho3.out (by omega) ?_; intro A7 d7 w7 hacc; have HA7 := Lib.hid hacc; clear hacc) | fail "app")
                  go_ret2
                  rw [HO.out, cls_ins]
                  exact ⟨_, _, _, rfl, HA7.out.sl (by omega) (by omega), (bnext H4.out HBz.out (Nat.le_refl _)).trans (HA7.out.below (by omega) (by omega))⟩
                · go_wp2_with (first | (at_builtin; refine wpList_accMany rfl (.tmp 38) (.tmp 41) 27 rfl 31 _ 5 48 Try.underlying27 info_cl rfl (by decide) (by decide) (Acc.made wz 31 5) (Nat.le_refl _) rfl g 0 (j + 1) _ ((cls l).take ((j + 1) * 5)) rfl hl1.out hs1.out ho1.out (by omega) ?_; intro A5 d5 w5 hacc; rw [Nat.zero_add]; rw [Nat.zero_add, List.nil_append] at hacc; replace r0 := (hacc.cell (p := ⟨w.heap.size, 0, none⟩) hzz (by simp only; omega)).trans r0; replace r1 := (hacc.cell (p := ⟨w.heap.size, 1, none⟩) hzz (by simp only; omega)).trans r1; replace r2 := (hacc.cell (p := ⟨w.heap.size, 2, none⟩) hzz (by simp only; omega)).trans r2; replace r3 := (hacc.cell (p := ⟨w.heap.size, 3, none⟩) hzz (by simp only; omega)).trans r3; replace r4 := (hacc.cell (p := ⟨w.heap.size, 4, none⟩) hzz (by simp only; omega)).trans r4; have HA5 := Lib.hid hacc; clear hacc) | (at_builtin; refine wpList_acc rfl (.tmp 43) (.tmp 45) 27 rfl 31 _ 5 48 Try.underlying27 info_cl rfl (by decide) (by decide) HA5.out (Nat.le_refl _) rfl [.string x.name, .int .i64 x.station, .int .i64 x.from_, .int .i64 x.to_, .int .i64 x.quota] rfl rfl (cl1' x) (by omega) ?_; intro A6 d6 w6 hacc; have HA6 := Lib.hid hacc; clear hacc) | (at_builtin; refine wpList_accMany rfl (.tmp 47) (.tmp 50) 27 rfl 31 _ 5 48 Try.underlying27 info_cl rfl (by decide) (by decide) HA6.out (Nat.le_refl _) rfl g ((j + 1) * 5) (n - (j + 1)) _ ((cls l).drop ((j + 1) * 5)) rfl hl3.out (hs3.out _ _ _ _ _ HA6.out) ho3.out (by omega) ?_; intro A7 d7 w7 hacc; have HA7 := Lib.hid hacc; clear hacc) | fail "app")
                  go_ret2
                  rw [HO.out, cls_ins]
                  exact ⟨_, _, _, rfl, HA7.out.sl (by omega) (by omega), (bnext H4.out HBz.out (Nat.le_refl _)).trans (HA7.out.below (by omega) (by omega))⟩

      · have HO := Lib.hid (addF_known h1 h2 hp)
        have hp1 : (0 : Int) ≤ placeOf l x.name := by omega
        go_enter Try.func14, Try.ntmps14
        go_wp2_with fail
        obtain ⟨wq, hwq⟩ : ∃ y, w.alloc (.cells #[.string x.name, .int .i64 x.station, .int .i64 x.from_, .int .i64 x.to_, .int .i64 x.quota] 31) = y := ⟨_, rfl⟩
        rw [hwq]
        have yq : Blk wq w.heap.size 31 #[.string x.name, .int .i64 x.station, .int .i64 x.from_, .int .i64 x.to_, .int .i64 x.quota] := by rw [← hwq]; exact Blk.new _ _ _
        have bq : Below w.heap.size w wq := by rw [← hwq]; exact (Below.refl _ _).alloc (Nat.le_refl _) _
        have zq := bq.size
        clear hwq
        refine (l24Ok_any _ n c l B wq (h.on hB bq) (by omega) hn hsm hgd).mono ?_
        rintro e w1 ⟨rfl, b1⟩
        have z1 := b1.size
        have y1 := yq.on b1
        have H1 := Lib.hid (bnext bq b1 (Nat.le_refl _))
        have h1' := (h.on hB bq).on (by omega) b1
        clear b1 yq bq
        have q0 : w1.cell? ⟨w.heap.size, 0, none⟩ = some (.string x.name) := y1.cellAt 0 (by simp)
        have q1 : w1.cell? ⟨w.heap.size, 1, none⟩ = some (.int .i64 x.station) := y1.cellAt 1 (by simp)
        have q2 : w1.cell? ⟨w.heap.size, 2, none⟩ = some (.int .i64 x.from_) := y1.cellAt 2 (by simp)
        have q3 : w1.cell? ⟨w.heap.size, 3, none⟩ = some (.int .i64 x.to_) := y1.cellAt 3 (by simp)
        have q4 : w1.cell? ⟨w.heap.size, 4, none⟩ = some (.int .i64 x.quota) := y1.cellAt 4 (by simp)
        go_wp2_with fail
        refine (l24One_any x w.heap.size 0 _ hx.1 hx q0 q1 q2 q3 q4).mono ?_
        rintro e w2 ⟨rfl, m2, rfl⟩
        go_wp2_with fail
        refine (l24Find_any _ n c l x.name B _ (h1'.drewN m2) hn).mono ?_
        rintro e w3 ⟨rfl, rfl⟩
        go_wp2
        go_ret2
        rw [HO.out]
        exact ⟨_, _, _, rfl, Sl.nil _ _ _ _ _, (below_drewN H1.out m2)⟩
end Go.Proofs.Ytnlghcpidlpfkaa
