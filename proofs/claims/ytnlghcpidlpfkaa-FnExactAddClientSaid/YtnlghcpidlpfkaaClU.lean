/- Clients: a client added, as the program does it. -/
import Derived.Test.YtnlghcpidlpfkaaClT
import Derived.Test.YtnlghcpidlpfkaaClH
import Derived.Test.YtnlghcpidlpfkaaClO
import Derived.Deep.RegionHeld3
set_option linter.unusedVariables false
set_option linter.unusedSimpArgs false
namespace Go.Proofs.Ytnlghcpidlpfkaa
open Go.RowKit

theorem cell_only {lo hi : Nat} {w w' : World} {p : Addr} {v : Value} (k : Only lo hi w w') (hp : p.block < lo) (h : w.cell? p = some v) : w'.cell? p = some v :=
  (World.cell?_of_block (k.block p.block (World.block_lt_of_cell? w _ h) (.inl hp))).trans h
set_option maxHeartbeats 2000000 in
set_option maxRecDepth 100000 in
theorem insCl_nil (vb : Nat) (vs : List Value) (w : World) (hv : Blk w vb 31 vs.toArray) (hvl : vs.length = 5) (h1v : ∀ u ∈ vs, u.oneCell' = true) :
    Calls Try.prog 103 #[.slice none 0 0, .int .i64 0, .slice (some ⟨vb, 0, none⟩) 1 1] w fun e w' => ∃ A' c', e = .returned (.slice A' 1 c') ∧ Sl w' w.heap.size w'.heap.size 31 5 A' 1 c' vs ∧ Only w.heap.size w.heap.size w w' := by
  have acc0 := Lib.hid (Acc.nil w 31 5)
  have hcells := Lib.hid (show ∀ j u, vs[j]? = some u → w.cell? ⟨vb, 0 + j, none⟩ = some u from fun j u hu => by rw [Nat.zero_add, hv.cell]; simpa using hu)
  have HV1 := Lib.hid h1v
  clear hv h1v
  go_enter Try.func103, Try.ntmps103
  go_wp2_with (at_builtin; refine wpList_accMany rfl _ _ 27 rfl 31 _ 5 48 Try.underlying27 info_cl rfl (by decide) (by decide) acc0.out (Nat.le_refl _) rfl vb 0 1 1 vs rfl (by omega) hcells.out HV1.out (by omega) ?_; intro A2 d2 w9 hacc2; rw [Nat.zero_add]; rw [Nat.zero_add, List.nil_append] at hacc2; have HA2 := Lib.hid hacc2; clear hacc2)
  go_ret
  exact ⟨_, _, rfl, HA2.out.sl (Nat.le_refl _) (Nat.le_refl _), ⟨HA2.out.os, HA2.out.tape, HA2.out.output, HA2.out.size, fun k hk hd => HA2.out.block k hk (by omega)⟩⟩
theorem insCl_any (A : Option Addr) (n c i vb lo hi : Nat) (xs vs : List Value) (w : World) (h : Sl w lo hi 31 5 A n c xs) (hlo : lo ≤ w.heap.size) (hhi : hi ≤ w.heap.size) (hi' : i ≤ n) (hn : n ≤ 1000000) (h1x : ∀ u ∈ xs, u.oneCell' = true) (hv : Blk w vb 31 vs.toArray) (hvl : vs.length = 5) (hvb : vb < lo ∨ hi ≤ vb) (h1v : ∀ u ∈ vs, u.oneCell' = true) :
    Calls Try.prog 103 #[.slice A n c, .int .i64 i, .slice (some ⟨vb, 0, none⟩) 1 1] w fun e w' => ∃ A' c', e = .returned (.slice A' (n + 1) c') ∧ Sl w' lo w'.heap.size 31 5 A' (n + 1) c' (xs.take (i * 5) ++ vs ++ xs.drop (i * 5)) ∧ Only lo w.heap.size w w' := by
  have hxl := h.len
  rcases h.1.2 with ⟨h', _⟩ | ⟨g, cap, cur, h', hg1, hg, hnc, hcm, hcs, ht⟩
  · injection h' with e1 e2 e3
    subst e1 e2 e3
    obtain rfl : i = 0 := by omega
    have hx0 : xs = [] := List.eq_nil_of_length_eq_zero (by omega)
    subst hx0
    refine (insCl_nil vb vs w hv hvl h1v).mono ?_
    rintro e w' ⟨A', c', rfl, s, o⟩
    exact ⟨A', c', rfl, by simpa using s.wide hlo (Nat.le_refl _), o.wide hlo (Nat.le_refl _)⟩
  · injection h' with e1 e2 e3
    subst e1 e3
    have hg2 : g < hi := h.2 _ rfl
    rcases Nat.lt_or_ge i n with hlt | hge
    · by_cases hroom : n + 1 ≤ c
      · exact insCl_shift g n c i vb lo hi cur.toList xs vs w hg (by simpa using hcs) ht hg1 hg2 hhi hlt hroom hn hcm h1x hv hvl (by omega) h1v
      · obtain rfl : c = n := by omega
        exact insCl_grow g c i vb lo hi xs vs w hxl (fun j u hu => by
          have hj : j < c * 5 := by rw [← hxl]; exact (List.getElem?_eq_some_iff.1 hu).1
          exact (h.cellAt j hj).trans hu) hg1 hg2 hhi hlt hn h1x hv hvl (by omega) h1v
    · obtain rfl : i = n := by omega
      rw [List.take_of_length_le (by omega), List.drop_eq_nil_of_le (by omega), List.append_nil]
      exact insCl_end g i c vb lo hi xs vs w h hhi hn (by unfold maxLen at hcm; omega) hv hvl h1v

theorem cl1 (x : Cl) : ∀ u ∈ cellsCl x, u.oneCell' = true := fun u hu => cls_one [x] u (by simpa [cls] using hu)

set_option maxHeartbeats 4000000 in
set_option maxRecDepth 100000 in
theorem implAddClient_any (g n c : Nat) (l : List Cl) (x : Cl) (B : Nat) (w : World) (h : Reads w B 5 (some ⟨g, 0, none⟩) n (cls l)) (hB : B ≤ w.heap.size) (hn : n ≤ 1048576) (hsm : ∀ x ∈ l, x.small) (hgd : ∀ x ∈ l, x.good) (hx : x.good) (hxs : x.small) :
    Calls Try.prog 17 #[.slice (some ⟨g, 0, none⟩) n c, .agg #[.string x.name, .int .i64 x.station, .int .i64 x.from_, .int .i64 x.to_, .int .i64 x.quota]] w fun e w' => ∃ A' m c', e = .returned (.tuple #[.slice A' m c', .int .i64 (addF l x).2]) ∧ Sl w' w.heap.size w'.heap.size 31 5 A' m c' (cls (addF l x).1) ∧ Below w.heap.size w w' := by
  have hl := Lib.hid (cls_len h)
  rcases h1 : okCls l with _ | _
  · have HO := Lib.hid (addF_bad (x := x) h1)
    go_enter Try.func17, Try.ntmps17
    go_wp2_with fail
    obtain ⟨wq, hwq⟩ : ∃ y, w.alloc (.cells #[.string x.name, .int .i64 x.station, .int .i64 x.from_, .int .i64 x.to_, .int .i64 x.quota] 31) = y := ⟨_, rfl⟩
    rw [hwq]
    have yq : Blk wq w.heap.size 31 #[.string x.name, .int .i64 x.station, .int .i64 x.from_, .int .i64 x.to_, .int .i64 x.quota] := by rw [← hwq]; exact Blk.new _ _ _
    have bq : Below w.heap.size w wq := by rw [← hwq]; exact (Below.refl _ _).alloc (Nat.le_refl _) _
    have zq := bq.size
    clear hwq
    refine (implValidClients_any _ n c l B wq (h.on hB bq) (by omega) hn hsm hgd).mono ?_
    rintro e w1 ⟨rfl, b1⟩
    have z1 := b1.size
    have y1 := yq.on b1
    have H1 := Lib.hid (bnext bq b1 (Nat.le_refl _))
    have h1' := (h.on hB bq).on (by omega) b1
    clear b1 yq bq
    go_wp2
    go_ret2
    rw [HO.out]
    exact ⟨_, _, _, rfl, Sl.nil _ _ _ _ _, H1.out⟩
  · rcases h2 : okCl x with _ | _
    · have HO := Lib.hid (addF_range h1 h2)
      go_enter Try.func17, Try.ntmps17
      go_wp2_with fail
      obtain ⟨wq, hwq⟩ : ∃ y, w.alloc (.cells #[.string x.name, .int .i64 x.station, .int .i64 x.from_, .int .i64 x.to_, .int .i64 x.quota] 31) = y := ⟨_, rfl⟩
      rw [hwq]
      have yq : Blk wq w.heap.size 31 #[.string x.name, .int .i64 x.station, .int .i64 x.from_, .int .i64 x.to_, .int .i64 x.quota] := by rw [← hwq]; exact Blk.new _ _ _
      have bq : Below w.heap.size w wq := by rw [← hwq]; exact (Below.refl _ _).alloc (Nat.le_refl _) _
      have zq := bq.size
      clear hwq
      refine (implValidClients_any _ n c l B wq (h.on hB bq) (by omega) hn hsm hgd).mono ?_
      rintro e w1 ⟨rfl, b1⟩
      have z1 := b1.size
      have y1 := yq.on b1
      have H1 := Lib.hid (bnext bq b1 (Nat.le_refl _))
      have h1' := (h.on hB bq).on (by omega) b1
      clear b1 yq bq
      have q0 : w1.cell? ⟨w.heap.size, 0, none⟩ = some (.string x.name) := y1.cellAt 0 (by simp)
      have q1 : w1.cell? ⟨w.heap.size, 1, none⟩ = some (.int .i64 x.station) := y1.cellAt 1 (by simp)
      have q2 : w1.cell? ⟨w.heap.size, 2, none⟩ = some (.int .i64 x.from_) := y1.cellAt 2 (by simp)
      have q3 : w1.cell? ⟨w.heap.size, 3, none⟩ = some (.int .i64 x.to_) := y1.cellAt 3 (by simp)
      have q4 : w1.cell? ⟨w.heap.size, 4, none⟩ = some (.int .i64 x.quota) := y1.cellAt 4 (by simp)
      go_wp2_with fail
      refine (validClient_any x _ hx.1).mono ?_
      rintro e w2 ⟨rfl, b2⟩
      have z2 := b2.size
      have y2 := y1.on b2
      have H2 := Lib.hid (bnext H1.out b2 (Nat.le_refl _))
      have h2' := h1'.on (by omega) b2
      clear b2 y1 q0 q1 q2 q3 q4 h1'
      go_wp2
      go_ret2
      rw [HO.out]
      exact ⟨_, _, _, rfl, Sl.nil _ _ _ _ _, H2.out⟩
    · have HK := Lib.hid (fun hp => addF_known h1 h2 hp)
      have HFu := Lib.hid (fun hp hl => addF_full h1 h2 hp hl)
      have HOk := Lib.hid (fun hp hl i (hi : PlaceAt l x.name i) => addF_ok h1 h2 hp hl hi)
      go_enter Try.func17, Try.ntmps17
      go_wp2_with fail
      obtain ⟨wq, hwq⟩ : ∃ y, w.alloc (.cells #[.string x.name, .int .i64 x.station, .int .i64 x.from_, .int .i64 x.to_, .int .i64 x.quota] 31) = y := ⟨_, rfl⟩
      rw [hwq]
      have yq : Blk wq w.heap.size 31 #[.string x.name, .int .i64 x.station, .int .i64 x.from_, .int .i64 x.to_, .int .i64 x.quota] := by rw [← hwq]; exact Blk.new _ _ _
      have bq : Below w.heap.size w wq := by rw [← hwq]; exact (Below.refl _ _).alloc (Nat.le_refl _) _
      have zq := bq.size
      clear hwq
      refine (implValidClients_any _ n c l B wq (h.on hB bq) (by omega) hn hsm hgd).mono ?_
      rintro e w1 ⟨rfl, b1⟩
      have z1 := b1.size
      have y1 := yq.on b1
      have H1 := Lib.hid (bnext bq b1 (Nat.le_refl _))
      have h1' := (h.on hB bq).on (by omega) b1
      clear b1 yq bq
      have q0 : w1.cell? ⟨w.heap.size, 0, none⟩ = some (.string x.name) := y1.cellAt 0 (by simp)
      have q1 : w1.cell? ⟨w.heap.size, 1, none⟩ = some (.int .i64 x.station) := y1.cellAt 1 (by simp)
      have q2 : w1.cell? ⟨w.heap.size, 2, none⟩ = some (.int .i64 x.from_) := y1.cellAt 2 (by simp)
      have q3 : w1.cell? ⟨w.heap.size, 3, none⟩ = some (.int .i64 x.to_) := y1.cellAt 3 (by simp)
      have q4 : w1.cell? ⟨w.heap.size, 4, none⟩ = some (.int .i64 x.quota) := y1.cellAt 4 (by simp)
      go_wp2_with fail
      refine (validClient_any x _ hx.1).mono ?_
      rintro e w2 ⟨rfl, b2⟩
      have z2 := b2.size
      have y2 := y1.on b2
      have H2 := Lib.hid (bnext H1.out b2 (Nat.le_refl _))
      have h2' := h1'.on (by omega) b2
      clear b2 y1 q0 q1 q2 q3 q4 h1'
      have q0 : w2.cell? ⟨w.heap.size, 0, none⟩ = some (.string x.name) := y2.cellAt 0 (by simp)
      have q1 : w2.cell? ⟨w.heap.size, 1, none⟩ = some (.int .i64 x.station) := y2.cellAt 1 (by simp)
      have q2 : w2.cell? ⟨w.heap.size, 2, none⟩ = some (.int .i64 x.from_) := y2.cellAt 2 (by simp)
      have q3 : w2.cell? ⟨w.heap.size, 3, none⟩ = some (.int .i64 x.to_) := y2.cellAt 3 (by simp)
      have q4 : w2.cell? ⟨w.heap.size, 4, none⟩ = some (.int .i64 x.quota) := y2.cellAt 4 (by simp)
      go_wp2_with fail
      refine (clientPlace_any _ n c l x.name B _ h2' (by omega) hn h1).mono ?_
      rintro e w3 ⟨i, hp, rfl, b3⟩
      have z3 := b3.size
      have y3 := y2.on b3
      have H3 := Lib.hid (bnext H2.out b3 (Nat.le_refl _))
      have h3' := h2'.on (by omega) b3
      clear b3 y2 q0 q1 q2 q3 q4 h2'
      rcases hf : foundAt l x.name i with _ | _
      · have hq := placeAt_lost h1 hp hf
        have hq1 : placeOf l x.name < 0 := by omega
        have hll := hl.out
        have hpl := hp.1
        by_cases hfull : n = 30
        · have HO := Lib.hid (HFu.out hq1 (by omega))
          have hf30 : ((n : Int) == 30) = true := by simp; omega
          clear hq hq1 hp hll hpl
          subst hfull
          go_wp2
          go_ret2
          rw [HO.out]
          exact ⟨_, _, _, rfl, Sl.nil _ _ _ _ _, H3.out⟩
        · have hle : n ≤ 29 := by
            have := okCls_len h1
            omega
          have HO := Lib.hid (HOk.out hq1 (by omega) i hp)
          have hf30 : ((n : Int) == 30) = false := by simp; omega
          have hin : i ≤ n := by omega
          have q0 : w3.cell? ⟨w.heap.size, 0, none⟩ = some (.string x.name) := y3.cellAt 0 (by simp)
          have q1 : w3.cell? ⟨w.heap.size, 1, none⟩ = some (.int .i64 x.station) := y3.cellAt 1 (by simp)
          have q2 : w3.cell? ⟨w.heap.size, 2, none⟩ = some (.int .i64 x.from_) := y3.cellAt 2 (by simp)
          have q3 : w3.cell? ⟨w.heap.size, 3, none⟩ = some (.int .i64 x.to_) := y3.cellAt 3 (by simp)
          have q4 : w3.cell? ⟨w.heap.size, 4, none⟩ = some (.int .i64 x.quota) := y3.cellAt 4 (by simp)
          have h3 := Lib.hid h3'
          have hw3 := Lib.hid (show w.heap.size < w3.heap.size from World.block_lt_of_cell? w3 _ q0)
          have hB3 : B ≤ w3.heap.size := by omega
          clear hq hq1 hp hll hpl y3 h3' h
          go_wp2_with fail
          have hw03 : w.heap.size ≤ w3.heap.size := by omega
          refine wp_region_any (by kernel_rfl) ?_
          try (change wpAny _ _ _ _ _ _ _ (World.drew _))
          refine wpAny_take (i := 0) (v := ?_) rfl (by kernel_rfl) (by kernel_rfl) (by kernel_rfl) (fun _ _ _ h => h) (Or.inl ⟨by kernel_rfl, ?_⟩) ?_
          rotate_left 1
          · intro w; go_simp; try with_reducible rfl
          try simp only [Act.put, List.getElem_toArray, List.getElem_cons_succ, List.getElem_cons_zero, List.setIfInBounds_toArray, List.set_cons_zero, List.set_cons_succ]
          refine wpAny_take (i := 2) (v := ?_) rfl (by kernel_rfl) (by kernel_rfl) (by kernel_rfl) (fun _ _ _ h => h) (Or.inl ⟨by kernel_rfl, ?_⟩) ?_
          rotate_left 1
          · intro w; go_simp; try with_reducible rfl
          try simp only [Act.put, List.getElem_toArray, List.getElem_cons_succ, List.getElem_cons_zero, List.setIfInBounds_toArray, List.set_cons_zero, List.set_cons_succ]
          refine wpAny_ready (rs := [1, 3]) (by kernel_rfl) (by simp) (AllReady.cons rfl (fun K hK => ?_) (AllReady.cons rfl (fun K hK => ?_) AllReady.nil))
          · go_simp
            refine (clone_any g 0 n c l B _ (h3.out.on hB3 ((Below.refl w3.heap.size w3).drew)) (Nat.le_trans hB3 ((Below.refl w3.heap.size w3).drew).size) (by omega)).mono ?_
            rintro e w4 ⟨A4, c4, rfl, sA, bA⟩
            have r0 : w4.cell? ⟨w.heap.size, 0, none⟩ = some (.string x.name) := cell_on bA q0
            have r1 : w4.cell? ⟨w.heap.size, 1, none⟩ = some (.int .i64 x.station) := cell_on bA q1
            have r2 : w4.cell? ⟨w.heap.size, 2, none⟩ = some (.int .i64 x.from_) := cell_on bA q2
            have r3 : w4.cell? ⟨w.heap.size, 3, none⟩ = some (.int .i64 x.to_) := cell_on bA q3
            have r4 : w4.cell? ⟨w.heap.size, 4, none⟩ = some (.int .i64 x.quota) := cell_on bA q4
            go_wp2
            try simp only [Act.put, List.getElem_toArray, List.getElem_cons_succ, List.getElem_cons_zero, List.setIfInBounds_toArray, List.set_cons_zero, List.set_cons_succ]
            refine wpAny_ready (rs := [3]) (by kernel_rfl) (by simp) (AllReady.cons rfl (fun K hK => ?_) AllReady.nil)
            go_simp
            refine hK _ _ ?_
            clear hK K
            try simp only [Act.put, List.getElem_toArray, List.getElem_cons_succ, List.getElem_cons_zero, List.setIfInBounds_toArray, List.set_cons_zero, List.set_cons_succ]
            refine wpAny_ready (rs := [4]) (by kernel_rfl) (by simp) (AllReady.cons rfl (fun K hK => ?_) AllReady.nil)
            go_simp
            refine hK _ _ ?_
            clear hK K
            try simp only [Act.put, List.getElem_toArray, List.getElem_cons_succ, List.getElem_cons_zero, List.setIfInBounds_toArray, List.set_cons_zero, List.set_cons_succ]
            refine wpAny_ready (rs := [5]) (by kernel_rfl) (by simp) (AllReady.cons rfl (fun K hK => ?_) AllReady.nil)
            go_simp
            refine (insCl_any A4 n c4 i _ _ _ (cls l) (cellsCl x) _ (sA.on ((Below.refl _ _).alloc (Nat.le_refl _) _)) (Nat.le_trans bA.size (by simp)) (by simp) hin (by omega) (cls_one l) (Blk.new _ _ _) rfl (.inr (Nat.le_refl _)) (cl1 x)).mono ?_
            rintro e w5 ⟨A5, c5, rfl, sR, bI⟩
            have HR := Lib.hid (And.intro (sR.wide (Nat.le_trans hw03 ((Below.refl w3.heap.size w3).drew).size) (Nat.le_refl _)) (bonly ((bnext (bnext H3.out ((Below.refl w3.heap.size w3).drew) (Nat.le_refl _)) bA (Nat.le_refl _)).alloc (Nat.le_trans hw03 (Nat.le_trans ((Below.refl w3.heap.size w3).drew).size bA.size)) _) bI (Nat.le_trans hw03 ((Below.refl w3.heap.size w3).drew).size) (Nat.le_refl _)))
            clear sR bI sA bA
            go_wp2
            try simp only [Act.put, List.getElem_toArray, List.getElem_cons_succ, List.getElem_cons_zero, List.setIfInBounds_toArray, List.set_cons_zero, List.set_cons_succ]
            refine wpAny_take (i := 6) (v := ?_) rfl (by kernel_rfl) (by kernel_rfl) (by kernel_rfl) (fun _ _ _ h => h) (Or.inl ⟨by kernel_rfl, ?_⟩) ?_
            rotate_left 1
            · intro w; go_simp; try with_reducible rfl
            try simp only [Act.put, List.getElem_toArray, List.getElem_cons_succ, List.getElem_cons_zero, List.setIfInBounds_toArray, List.set_cons_zero, List.set_cons_succ]
            refine wpAny_take (i := 7) (v := ?_) rfl (by kernel_rfl) (by kernel_rfl) (by kernel_rfl) (fun _ _ _ h => h) (Or.inl ⟨by kernel_rfl, ?_⟩) ?_
            rotate_left 1
            · intro w; go_simp; try with_reducible rfl
            try simp only [Act.put, List.getElem_toArray, List.getElem_cons_succ, List.getElem_cons_zero, List.setIfInBounds_toArray, List.set_cons_zero, List.set_cons_succ]
            refine wpAny_done (by kernel_rfl) ?_ _
            go_wp2
            go_ret2
            rw [HO.out, cls_ins]
            exact ⟨_, _, _, rfl, HR.out.1, HR.out.2⟩
          · go_simp
            refine hK _ _ ?_
            clear hK K
            try simp only [Act.put, List.getElem_toArray, List.getElem_cons_succ, List.getElem_cons_zero, List.setIfInBounds_toArray, List.set_cons_zero, List.set_cons_succ]
            refine wpAny_ready (rs := [1, 4]) (by kernel_rfl) (by simp) (AllReady.cons rfl (fun K hK => ?_) (AllReady.cons rfl (fun K hK => ?_) AllReady.nil))
            · go_simp
              refine (clone_any g 0 n c l B _ (h3.out.on hB3 ((Below.refl w3.heap.size w3).drew)) (Nat.le_trans hB3 ((Below.refl w3.heap.size w3).drew).size) (by omega)).mono ?_
              rintro e w4 ⟨A4, c4, rfl, sA, bA⟩
              go_wp2
              try simp only [Act.put, List.getElem_toArray, List.getElem_cons_succ, List.getElem_cons_zero, List.setIfInBounds_toArray, List.set_cons_zero, List.set_cons_succ]
              refine wpAny_ready (rs := [4]) (by kernel_rfl) (by simp) (AllReady.cons rfl (fun K hK => ?_) AllReady.nil)
              go_simp
              refine hK _ _ ?_
              clear hK K
              try simp only [Act.put, List.getElem_toArray, List.getElem_cons_succ, List.getElem_cons_zero, List.setIfInBounds_toArray, List.set_cons_zero, List.set_cons_succ]
              refine wpAny_ready (rs := [5]) (by kernel_rfl) (by simp) (AllReady.cons rfl (fun K hK => ?_) AllReady.nil)
              go_simp
              refine (insCl_any A4 n c4 i _ _ _ (cls l) (cellsCl x) _ (sA.on ((Below.refl _ _).alloc (Nat.le_refl _) _)) (Nat.le_trans bA.size (by simp)) (by simp) hin (by omega) (cls_one l) (Blk.new _ _ _) rfl (.inr (Nat.le_refl _)) (cl1 x)).mono ?_
              rintro e w5 ⟨A5, c5, rfl, sR, bI⟩
              have HR := Lib.hid (And.intro (sR.wide (Nat.le_trans hw03 ((Below.refl w3.heap.size w3).drew).size) (Nat.le_refl _)) (bonly ((bnext (bnext H3.out ((Below.refl w3.heap.size w3).drew) (Nat.le_refl _)) bA (Nat.le_refl _)).alloc (Nat.le_trans hw03 (Nat.le_trans ((Below.refl w3.heap.size w3).drew).size bA.size)) _) bI (Nat.le_trans hw03 ((Below.refl w3.heap.size w3).drew).size) (Nat.le_refl _)))
              clear sR bI sA bA
              go_wp2
              try simp only [Act.put, List.getElem_toArray, List.getElem_cons_succ, List.getElem_cons_zero, List.setIfInBounds_toArray, List.set_cons_zero, List.set_cons_succ]
              refine wpAny_take (i := 6) (v := ?_) rfl (by kernel_rfl) (by kernel_rfl) (by kernel_rfl) (fun _ _ _ h => h) (Or.inl ⟨by kernel_rfl, ?_⟩) ?_
              rotate_left 1
              · intro w; go_simp; try with_reducible rfl
              try simp only [Act.put, List.getElem_toArray, List.getElem_cons_succ, List.getElem_cons_zero, List.setIfInBounds_toArray, List.set_cons_zero, List.set_cons_succ]
              refine wpAny_take (i := 7) (v := ?_) rfl (by kernel_rfl) (by kernel_rfl) (by kernel_rfl) (fun _ _ _ h => h) (Or.inl ⟨by kernel_rfl, ?_⟩) ?_
              rotate_left 1
              · intro w; go_simp; try with_reducible rfl
              try simp only [Act.put, List.getElem_toArray, List.getElem_cons_succ, List.getElem_cons_zero, List.setIfInBounds_toArray, List.set_cons_zero, List.set_cons_succ]
              refine wpAny_done (by kernel_rfl) ?_ _
              go_wp2
              go_ret2
              rw [HO.out, cls_ins]
              exact ⟨_, _, _, rfl, HR.out.1, HR.out.2⟩
            · go_simp
              refine hK _ _ ?_
              clear hK K
              try simp only [Act.put, List.getElem_toArray, List.getElem_cons_succ, List.getElem_cons_zero, List.setIfInBounds_toArray, List.set_cons_zero, List.set_cons_succ]
              refine wpAny_ready (rs := [1]) (by kernel_rfl) (by simp) (AllReady.cons rfl (fun K hK => ?_) AllReady.nil)
              go_simp
              refine (clone_any g 0 n c l B _ (h3.out.on hB3 ((Below.refl w3.heap.size w3).drew.alloc (Nat.le_refl _) _)) (Nat.le_trans hB3 ((Below.refl w3.heap.size w3).drew.alloc (Nat.le_refl _) _).size) (by omega)).mono ?_
              rintro e w4 ⟨A4, c4, rfl, sA, bA⟩
              go_wp2
              try simp only [Act.put, List.getElem_toArray, List.getElem_cons_succ, List.getElem_cons_zero, List.setIfInBounds_toArray, List.set_cons_zero, List.set_cons_succ]
              refine wpAny_ready (rs := [5]) (by kernel_rfl) (by simp) (AllReady.cons rfl (fun K hK => ?_) AllReady.nil)
              go_simp
              refine (insCl_any A4 n c4 i _ _ _ (cls l) (cellsCl x) _ sA bA.size (Nat.le_refl _) hin (by omega) (cls_one l) (Blk.on (Blk.new _ _ _) bA) rfl (.inl (by simp)) (cl1 x)).mono ?_
              rintro e w5 ⟨A5, c5, rfl, sR, bI⟩
              have HR := Lib.hid (And.intro (sR.wide (Nat.le_trans hw03 ((Below.refl w3.heap.size w3).drew.alloc (Nat.le_refl _) _).size) (Nat.le_refl _)) (bonly (bnext (bnext H3.out ((Below.refl w3.heap.size w3).drew.alloc (Nat.le_refl _) _) (Nat.le_refl _)) bA (Nat.le_refl _)) bI (Nat.le_trans hw03 ((Below.refl w3.heap.size w3).drew.alloc (Nat.le_refl _) _).size) (Nat.le_refl _)))
              clear sR bI sA bA
              go_wp2
              try simp only [Act.put, List.getElem_toArray, List.getElem_cons_succ, List.getElem_cons_zero, List.setIfInBounds_toArray, List.set_cons_zero, List.set_cons_succ]
              refine wpAny_take (i := 6) (v := ?_) rfl (by kernel_rfl) (by kernel_rfl) (by kernel_rfl) (fun _ _ _ h => h) (Or.inl ⟨by kernel_rfl, ?_⟩) ?_
              rotate_left 1
              · intro w; go_simp; try with_reducible rfl
              try simp only [Act.put, List.getElem_toArray, List.getElem_cons_succ, List.getElem_cons_zero, List.setIfInBounds_toArray, List.set_cons_zero, List.set_cons_succ]
              refine wpAny_take (i := 7) (v := ?_) rfl (by kernel_rfl) (by kernel_rfl) (by kernel_rfl) (fun _ _ _ h => h) (Or.inl ⟨by kernel_rfl, ?_⟩) ?_
              rotate_left 1
              · intro w; go_simp; try with_reducible rfl
              try simp only [Act.put, List.getElem_toArray, List.getElem_cons_succ, List.getElem_cons_zero, List.setIfInBounds_toArray, List.set_cons_zero, List.set_cons_succ]
              refine wpAny_done (by kernel_rfl) ?_ _
              go_wp2
              go_ret2
              rw [HO.out, cls_ins]
              exact ⟨_, _, _, rfl, HR.out.1, HR.out.2⟩
      · have hq := placeAt_found hp hf
        have HO := Lib.hid (HK.out (by omega))
        clear hq hp
        go_wp2
        go_ret2
        rw [HO.out]
        exact ⟨_, _, _, rfl, Sl.nil _ _ _ _ _, H3.out⟩
end Go.Proofs.Ytnlghcpidlpfkaa
