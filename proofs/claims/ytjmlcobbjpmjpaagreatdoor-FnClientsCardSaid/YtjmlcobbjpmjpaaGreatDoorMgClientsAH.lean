/- ReadClient, as the program does it. What a row's claim gives of the library's own variables: the world's shape kept beside what is laid. -/
import Derived.Test.YtjmlcobbjpmjpaaGreatDoorMgClientsAB
import Derived.Test.YtjmlcobbjpmjpaaGreatDoorMgClientsAG
import Derived.Test.YtjmlcobbjpmjpaaGreatDoorMgClientsAE
import Derived.Test.YtjmlcobbjpmjpaaGreatDoorMgClientsAA
import Derived.Deep.RegionHeld3
import Derived.Test.YtjmlcobbjpmjpaaGreatDoorRows
import Derived.HandedShaped
import Derived.Handed
import Derived.Shelf.Vars
import Derived.LaidMore
import Derived.Stop.LaidErr
import Derived.Lib.LaidTab
set_option linter.unusedVariables false
set_option linter.unusedSimpArgs false
namespace Go.Proofs.YtjmlcobbjpmjpaaGreatDoor
open Go.RowKit Go.Lib

theorem parseCl_not {s a b c : ByteArray} (h : splitS 32 s = [a, b, c]) (H : ∀ nm st f t q, splitS 64 a = [nm, st] → splitS 45 b = [f, t] → c.data.toList = 120 :: q → decs4 st f t (asBytes q) = true → okCl (clOf nm st f t (asBytes q)) = true → parseCl s = some (clOf nm st f t (asBytes q)) → False) : parseCl s = none := by
  rcases hp : parseCl s with _ | y
  · rfl
  · exfalso
    obtain ⟨a', b', c', nm, st, f, t, q, e3, hq, e1, e2, hd, ho, rfl⟩ := parseCl_some hp
    rw [h] at e3
    injection e3 with ea e3
    injection e3 with eb e3
    injection e3 with ec _
    subst ea eb ec
    exact H nm st f t q e1 e2 hq hd ho hp
theorem cut_two {a nm st : ByteArray} {x r : List UInt8} (he : a.data.toList = x ++ 64 :: r) (hn : (64 : UInt8) ∉ x) (h : splitS 64 a = [nm, st]) : nm = asBytes x ∧ st = asBytes r := by
  have h2 : splitS 64 a = asBytes x :: splitS 64 (asBytes r) := by
    unfold splitS
    rw [he, splitL_hit hn, List.map_cons, data_asBytes]
  rw [h2] at h
  injection h with h3 h4
  refine ⟨h3.symm, ?_⟩
  have h5 := join_split h4
  simp only [List.map_cons, List.map_nil, joinL, data_asBytes] at h5
  rw [h5, asBytes_data]
/-- strings.Cut at '@', whatever the text. -/
theorem cutAt_any (a : ByteArray) (m : Int) (w : World) (hs : a.size ≤ 1048576) (hm : w.cell? ⟨0, 0, none⟩ = some (.int .i64 m)) :
    ∃ (nm pl : ByteArray) (bb : Bool), (Calls Tryz.prog 105 #[.string a, .string ⟨#[64]⟩] w fun e w' => e = .returned (.tuple #[.string nm, .string pl, .bool bb]) ∧ Below w.heap.size w w') ∧ (∀ n2 s2, splitS 64 a = [n2, s2] → n2 = nm ∧ s2 = pl) ∧ nm.size ≤ a.size ∧ pl.size ≤ a.size := by
  rcases index_one 64 a.data.toList with ⟨_, hno⟩ | ⟨x, r, he, hna, _⟩
  · refine ⟨a, ⟨#[]⟩, false, strCut_miss a 64 m w hs hm hno, fun n2 s2 h => ?_, Nat.le_refl _, Nat.zero_le _⟩
    rw [split_end hno] at h
    cases h
  · have hl := congrArg List.length he
    simp only [List.length_append, List.length_cons, data_len] at hl
    refine ⟨asBytes x, asBytes r, true, strCut_hit a (asBytes x) 64 r m w hs hm (by rw [data_asBytes]; exact he) (by rw [data_asBytes]; exact hna), fun n2 s2 h => cut_two he hna h, by rw [asBytes_size]; omega, by rw [asBytes_size]; omega⟩
def trX (c : ByteArray) : ByteArray := asBytes (Lib.trimPrefix c.data.toList [120])
theorem trX_hit {c : ByteArray} {q : List UInt8} (h : c.data.toList = 120 :: q) : trX c = asBytes q := by
  rw [trX, h]
  simp [Lib.trimPrefix, Lib.hasPrefix, List.isPrefixOf]
theorem trX_size (c : ByteArray) : (trX c).size ≤ c.size := by
  rw [trX, asBytes_size, ← data_len c]
  unfold Lib.trimPrefix
  split
  · rw [List.length_drop]; omega
  · exact Nat.le_refl _
theorem trimX_any (c : ByteArray) (w : World) : Calls Tryz.prog 108 #[.string c, .string ⟨#[120]⟩] w fun e w' => e = .returned (.string (trX c)) ∧ w = w' := by
  refine (Tryz.strings_TrimPrefix c ⟨#[120]⟩ w).mono ?_
  rintro e w' ⟨rfl, rfl⟩
  exact ⟨rfl, rfl⟩
theorem numsF_some {b : ByteArray} {p q : Int} (h : numsF b = some (p, q)) : ∃ f t, splitS 45 b = [f, t] ∧ isDec f.data.toList = true ∧ isDec t.data.toList = true ∧ p = numS f.data.toList ∧ q = numS t.data.toList := by
  by_cases hl : (splitS 45 b).length = 2
  · obtain ⟨f, t, e⟩ := two_of hl
    rw [numsF_two e] at h
    rcases h1 : isDec f.data.toList with _ | _
    · rw [h1] at h; simp at h
    · rcases h2 : isDec t.data.toList with _ | _
      · rw [h1, h2] at h; simp at h
      · rw [h1, h2] at h
        simp only [Bool.and_self, if_true] at h
        injection h with h
        injection h with h3 h4
        exact ⟨f, t, e, h1, h2, h3.symm, h4.symm⟩
  · rw [numsF_len hl] at h; cases h
theorem numsF_bd {b : ByteArray} {p q : Int} (h : numsF b = some (p, q)) : (-1000000000000000000 < p ∧ p < 1000000000000000000) ∧ (-1000000000000000000 < q ∧ q < 1000000000000000000) := by
  obtain ⟨f, t, _, h1, h2, rfl, rfl⟩ := numsF_some h
  have a1 := readN_bd f.data.toList
  have a2 := readN_bd t.data.toList
  rw [readN_fstT h1] at a1
  rw [readN_fstT h2] at a2
  exact ⟨a1, a2⟩
theorem numsF_of {b f t : ByteArray} (h : splitS 45 b = [f, t]) (h1 : isDec f.data.toList = true) (h2 : isDec t.data.toList = true) : numsF b = some (numS f.data.toList, numS t.data.toList) := by
  rw [numsF_two h, h1, h2]; rfl

set_option maxHeartbeats 4000000 in
set_option maxRecDepth 100000 in
theorem implReadClient_any (s : ByteArray) (m : Int) (w : World) (hs : s.size ≤ 1048576) (hm : w.cell? ⟨0, 0, none⟩ = some (.int .i64 m)) (ht : TabP w) (hv : SynP w) :
    Calls Tryz.prog 39 #[.string s] w fun e w' => e = .returned (.tuple #[.agg #[.string (rcF s).1.name, .int .i64 (rcF s).1.station, .int .i64 (rcF s).1.from_, .int .i64 (rcF s).1.to_, .int .i64 (rcF s).1.quota], .bool (rcF s).2]) ∧ Below w.heap.size w w' := by
  have b0 : Below w.heap.size w (w.alloc (.cells #[.string ⟨#[]⟩, .int .i64 0, .int .i64 0, .int .i64 0, .int .i64 0] 48)) := (Below.refl _ _).alloc (Nat.le_refl _) _
  have y0 := Blk.new w 48 #[.string ⟨#[]⟩, .int .i64 0, .int .i64 0, .int .i64 0, .int .i64 0]
  have HT := Lib.hid ht
  have HV := Lib.hid hv
  have HM := Lib.hid hm
  have hm0 := cell_on b0 hm
  clear ht hv hm
  by_cases h3 : (splitS 32 s).length = 3
  · obtain ⟨a, b, c, he⟩ := three_of h3
    obtain ⟨za, zb, zc⟩ := three_sizes he
    have zx := trX_size c
    have HE := Lib.hid he
    clear h3
    go_enter Tryz.func39, Tryz.ntmps39
    go_wp2_with fail
    refine (strSplit_any s 32 m _ hs hm0).mono ?_
    rintro e w1 ⟨A, n, k, rfl, s1, b1⟩
    have y1 := y0.on b1
    have HB1 := Lib.hid (bnext b0 b1 (Nat.le_refl _))
    clear b1 b0 y0 hm0
    rw [he] at s1
    obtain ⟨rfl, g, rfl, c0, c1, c2⟩ := sl_strs3 s1
    clear s1 he
    obtain ⟨nm, pl, bb, hcut, htwo, znm, zpl⟩ := cutAt_any a m w1 (by omega) (cell_on HB1.out HM.out)
    have H2 := Lib.hid htwo
    clear htwo
    go_wp2_with fail
    refine hcut.mono ?_
    rintro e w2 ⟨rfl, b2⟩
    replace c1 := cell_on b2 c1
    replace c2 := cell_on b2 c2
    have y2 := y1.on b2
    have HB2 := Lib.hid (bnext HB1.out b2 (Nat.le_refl _))
    clear b2 c0 y1 hcut
    go_wp2_with fail
    refine (readDecimal_any pl _ (by omega) (tabUp HT.out HB2.out) (synUp HV.out HB2.out)).mono ?_
    rintro e w3 ⟨rfl, b3⟩
    replace c1 := cell_on b3 c1
    replace c2 := cell_on b3 c2
    have y3 := y2.on b3
    have HB3 := Lib.hid (bnext HB2.out b3 (Nat.le_refl _))
    clear b3 y2
    have x1 := readN_bd pl.data.toList
    have E1 := Lib.hid (readN_snd pl.data.toList)
    have E2 := Lib.hid (fun h => readN_fstT (s := pl.data.toList) h)
    obtain ⟨n1, hn1⟩ : ∃ v, (readN pl.data.toList).1 = v := ⟨_, rfl⟩
    obtain ⟨p1, hp1⟩ : ∃ v, (readN pl.data.toList).2 = v := ⟨_, rfl⟩
    rw [hn1] at x1 E2
    rw [hp1] at E1
    rw [hn1, hp1]
    clear hn1 hp1
    have x4 := readN_bd (trX c).data.toList
    have E3 := Lib.hid (readN_snd (trX c).data.toList)
    have E4 := Lib.hid (fun h => readN_fstT (s := (trX c).data.toList) h)
    obtain ⟨n4, hn4⟩ : ∃ v, (readN (trX c).data.toList).1 = v := ⟨_, rfl⟩
    obtain ⟨p4, hp4⟩ : ∃ v, (readN (trX c).data.toList).2 = v := ⟨_, rfl⟩
    rw [hn4] at x4 E4
    rw [hp4] at E3
    have HN4 := Lib.hid hn4
    have HP4 := Lib.hid hp4
    clear hn4 hp4
    go_wp2_with fail
    refine (readNumbers_any b m _ (by omega) (cell_on HB3.out HM.out) (tabUp HT.out HB3.out) (synUp HV.out HB3.out)).mono ?_
    rintro e w4 (⟨p, q, g4, d4, hnf, rfl, k0, k1, b4⟩ | ⟨hnf, rfl, b4⟩)
    · replace c2 := cell_on b4 c2
      have y4 := y3.on b4
      have HB4 := Lib.hid (bnext HB3.out b4 (Nat.le_refl _))
      have HNF := Lib.hid hnf
      have hbd := numsF_bd hnf
      clear b4 c1 y3 hnf
      go_wp2_with fail
      refine (trimX_any c _).mono ?_
      rintro e w5 ⟨rfl, rfl⟩
      go_wp2_with fail
      (have hrd := readDecimal_any (trX c) w4 (by omega) (tabUp HT.out HB4.out) (synUp HV.out HB4.out))
      rw [HN4.out, HP4.out] at hrd
      refine hrd.mono ?_
      rintro e w6 ⟨rfl, b6⟩
      have y6 := y4.on b6
      have HB6 := Lib.hid (bnext HB4.out b6 (Nat.le_refl _))
      replace k0 := cell_on b6 k0
      replace k1 := cell_on b6 k1
      clear b6 c2 y4 hrd
      rcases p1 with _ | _
      · have HO := Lib.hid (rcF_none (parseCl_not HE.out (fun n2 s2 f t qq e1 e2 e3 hd ho _ => by
          obtain ⟨rfl, rfl⟩ := H2.out n2 s2 e1
          simp only [decs4, Bool.and_eq_true] at hd
          rw [← E1.out] at hd
          exact absurd hd.1 (by decide))))
        have hc0 := y6.cellAt 0 (by simp)
        have hc1 := y6.cellAt 1 (by simp)
        have hc2 := y6.cellAt 2 (by simp)
        have hc3 := y6.cellAt 3 (by simp)
        have hc4 := y6.cellAt 4 (by simp)
        have hf0 := y6.frozen 0
        have hf1 := y6.frozen 1
        have hf2 := y6.frozen 2
        have hf3 := y6.frozen 3
        have hf4 := y6.frozen 4
        clear y6
        go_wp2
        exact bodyPost_ret (v := .tuple #[.agg #[.string ⟨#[]⟩, .int .i64 0, .int .i64 0, .int .i64 0, .int .i64 0], .bool false]) (by simp [results, Tryz.results39, go_sem, hc0, hc1, hc2, hc3, hc4]) rfl ⟨by rw [HO.out], ((((HB6.out.setCell (Nat.le_refl _) _).setCell (Nat.le_refl _) _).setCell (Nat.le_refl _) _).setCell (Nat.le_refl _) _).setCell (Nat.le_refl _) _⟩
      · rcases p4 with _ | _
        · have HO := Lib.hid (rcF_none (parseCl_not HE.out (fun n2 s2 f t qq e1 e2 e3 hd ho _ => by
            obtain ⟨rfl, rfl⟩ := H2.out n2 s2 e1
            simp only [decs4, Bool.and_eq_true] at hd
            have h9 := hd.2.2.2
            rw [← trX_hit e3, ← E3.out] at h9
            exact absurd h9 (by decide))))
          have hc0 := y6.cellAt 0 (by simp)
          have hc1 := y6.cellAt 1 (by simp)
          have hc2 := y6.cellAt 2 (by simp)
          have hc3 := y6.cellAt 3 (by simp)
          have hc4 := y6.cellAt 4 (by simp)
          have hf0 := y6.frozen 0
          have hf1 := y6.frozen 1
          have hf2 := y6.frozen 2
          have hf3 := y6.frozen 3
          have hf4 := y6.frozen 4
          clear y6
          go_wp2
          exact bodyPost_ret (v := .tuple #[.agg #[.string ⟨#[]⟩, .int .i64 0, .int .i64 0, .int .i64 0, .int .i64 0], .bool false]) (by simp [results, Tryz.results39, go_sem, hc0, hc1, hc2, hc3, hc4]) rfl ⟨by rw [HO.out], ((((HB6.out.setCell (Nat.le_refl _) _).setCell (Nat.le_refl _) _).setCell (Nat.le_refl _) _).setCell (Nat.le_refl _) _).setCell (Nat.le_refl _) _⟩
        · have hxg : Cl.good ⟨nm, n1, p, q, n4⟩ := by refine ⟨?_, ⟨?_, ?_⟩, ⟨?_, ?_⟩, ⟨?_, ?_⟩, ⟨?_, ?_⟩⟩ <;> simp only <;> omega
          have HG := Lib.hid hxg
          have HEQ := Lib.hid (show ∀ n2 s2 f t qq, splitS 64 a = [n2, s2] → splitS 45 b = [f, t] → c.data.toList = 120 :: qq → decs4 s2 f t (asBytes qq) = true → clOf n2 s2 f t (asBytes qq) = ⟨nm, n1, p, q, n4⟩ from fun n2 s2 f t qq e1 e2 e3 hd => by
            obtain ⟨rfl, rfl⟩ := H2.out n2 s2 e1
            simp only [decs4, Bool.and_eq_true] at hd
            have h1 := E2.out hd.1
            have h4 := E4.out (by rw [trX_hit e3]; exact hd.2.2.2)
            have h2 := numsF_of e2 hd.2.1 hd.2.2.1
            rw [HNF.out] at h2
            injection h2 with h2
            injection h2 with h2 h3
            rw [trX_hit e3] at h4
            simp only [clOf, h1, h2, h3, h4])
          clear hxg
          go_wp2_with fail
          refine wp_region_held_drew (S := (fun W => Below w.heap.size w W ∧ Blk W w.heap.size 48 #[.string ⟨#[]⟩, .int .i64 0, .int .i64 0, .int .i64 0, .int .i64 0] ∧ W.cell? ⟨g4, 0, none⟩ = some (.int .i64 p) ∧ W.cell? ⟨g4, 1, none⟩ = some (.int .i64 q))) (by kernel_rfl) ?_ (fun hHeld => ?_)
          · exact ⟨HB6.out.drew, y6.drew, k0, k1⟩
          refine wpAnyH_take (i := 0) (v := ?_) rfl (by kernel_rfl) (by kernel_rfl) (by kernel_rfl) (fun _ _ _ h => h) (Or.inl ⟨by kernel_rfl, ?_⟩) (by assumption) ?_
          rotate_left 1
          · intro w hSw; (try dsimp only at hSw); go_simp; try with_reducible rfl
          try simp only [Act.put, List.getElem_toArray, List.getElem_cons_succ, List.getElem_cons_zero, List.setIfInBounds_toArray, List.set_cons_zero, List.set_cons_succ]
          refine wpAnyH_take (i := 1) (v := ?_) rfl (by kernel_rfl) (by kernel_rfl) (by kernel_rfl) (fun _ _ _ h => h) (Or.inl ⟨by kernel_rfl, ?_⟩) (by assumption) ?_
          rotate_left 1
          · intro w hSw; (try dsimp only at hSw); go_simp; try with_reducible rfl
          try simp only [Act.put, List.getElem_toArray, List.getElem_cons_succ, List.getElem_cons_zero, List.setIfInBounds_toArray, List.set_cons_zero, List.set_cons_succ]
          refine wpAnyH_take (i := 2) (v := ?_) rfl (by kernel_rfl) (by kernel_rfl) (by kernel_rfl) (fun _ _ _ h => h) (Or.inl ⟨by kernel_rfl, ?_⟩) (by assumption) ?_
          rotate_left 1
          · intro w hSw; (try dsimp only at hSw); go_simp; try with_reducible rfl
          try simp only [Act.put, List.getElem_toArray, List.getElem_cons_succ, List.getElem_cons_zero, List.setIfInBounds_toArray, List.set_cons_zero, List.set_cons_succ]
          refine wpAnyH_take (i := 3) (v := ?_) rfl (by kernel_rfl) (by kernel_rfl) (by kernel_rfl) (fun _ _ _ h => h) (Or.inl ⟨by kernel_rfl, ?_⟩) (by assumption) ?_
          rotate_left 1
          · intro w hSw; (try dsimp only at hSw); go_simp; try with_reducible rfl
          try simp only [Act.put, List.getElem_toArray, List.getElem_cons_succ, List.getElem_cons_zero, List.setIfInBounds_toArray, List.set_cons_zero, List.set_cons_succ]
          refine wpAnyH_take (i := 4) (v := ?_) rfl (by kernel_rfl) (by kernel_rfl) (by kernel_rfl) (fun _ _ _ h => h) (Or.inl ⟨by kernel_rfl, ?_⟩) (by assumption) ?_
          rotate_left 1
          · intro w hSw; (try dsimp only at hSw); (have l0 := hSw.2.2.1); (have l1 := hSw.2.2.2); go_simp; try with_reducible rfl
          try simp only [Act.put, List.getElem_toArray, List.getElem_cons_succ, List.getElem_cons_zero, List.setIfInBounds_toArray, List.set_cons_zero, List.set_cons_succ]
          refine wpAnyH_take (i := 5) (v := ?_) rfl (by kernel_rfl) (by kernel_rfl) (by kernel_rfl) (fun _ _ _ h => h) (Or.inl ⟨by kernel_rfl, ?_⟩) (by assumption) ?_
          rotate_left 1
          · intro w hSw; (try dsimp only at hSw); go_simp; try with_reducible rfl
          try simp only [Act.put, List.getElem_toArray, List.getElem_cons_succ, List.getElem_cons_zero, List.setIfInBounds_toArray, List.set_cons_zero, List.set_cons_succ]
          refine wpAnyH_take (i := 6) (v := ?_) rfl (by kernel_rfl) (by kernel_rfl) (by kernel_rfl) (fun _ _ _ h => h) (Or.inl ⟨by kernel_rfl, ?_⟩) (by assumption) ?_
          rotate_left 1
          · intro w hSw; (try dsimp only at hSw); go_simp; try with_reducible rfl
          try simp only [Act.put, List.getElem_toArray, List.getElem_cons_succ, List.getElem_cons_zero, List.setIfInBounds_toArray, List.set_cons_zero, List.set_cons_succ]
          refine wpAnyH_take (i := 7) (v := ?_) rfl (by kernel_rfl) (by kernel_rfl) (by kernel_rfl) (fun _ _ _ h => h) (Or.inl ⟨by kernel_rfl, ?_⟩) (by assumption) ?_
          rotate_left 1
          · intro w hSw; (try dsimp only at hSw); (have l0 := hSw.2.2.1); (have l1 := hSw.2.2.2); go_simp; try with_reducible rfl
          try simp only [Act.put, List.getElem_toArray, List.getElem_cons_succ, List.getElem_cons_zero, List.setIfInBounds_toArray, List.set_cons_zero, List.set_cons_succ]
          refine wpAnyH_take (i := 8) (v := ?_) rfl (by kernel_rfl) (by kernel_rfl) (by kernel_rfl) (fun _ _ _ h => h) (Or.inl ⟨by kernel_rfl, ?_⟩) (by assumption) ?_
          rotate_left 1
          · intro w hSw; (try dsimp only at hSw); go_simp; try with_reducible rfl
          try simp only [Act.put, List.getElem_toArray, List.getElem_cons_succ, List.getElem_cons_zero, List.setIfInBounds_toArray, List.set_cons_zero, List.set_cons_succ]
          refine wpAnyH_take (i := 9) (v := ?_) rfl (by kernel_rfl) (by kernel_rfl) (by kernel_rfl) (fun _ _ _ h => h) (Or.inl ⟨by kernel_rfl, ?_⟩) (by assumption) ?_
          rotate_left 1
          · intro w hSw; (try dsimp only at hSw); go_simp; try with_reducible rfl
          try simp only [Act.put, List.getElem_toArray, List.getElem_cons_succ, List.getElem_cons_zero, List.setIfInBounds_toArray, List.set_cons_zero, List.set_cons_succ]
          refine wpAnyH_ready (rs := [10]) (by kernel_rfl) (by simp) ?_
          refine AllReadyH.cons rfl (fun K hK => ?_) AllReadyH.nil
          go_simp
          refine hK.out _ _ ?_ (fun hNew => ?_)
          · exact ⟨hHeld.1.alloc hHeld.1.size _, hHeld.2.1.on ((Below.refl w6.drew.heap.size w6.drew).alloc (Nat.le_refl _) _), cell_on ((Below.refl w6.drew.heap.size w6.drew).alloc (Nat.le_refl _) _) hHeld.2.2.1, cell_on ((Below.refl w6.drew.heap.size w6.drew).alloc (Nat.le_refl _) _) hHeld.2.2.2⟩
          clear hK K hHeld
          have hHeld := hNew
          clear hNew
          try simp only [Act.put, List.getElem_toArray, List.getElem_cons_succ, List.getElem_cons_zero, List.setIfInBounds_toArray, List.set_cons_zero, List.set_cons_succ]
          refine wpAnyH_ready (rs := [11]) (by kernel_rfl) (by simp) ?_
          refine AllReadyH.cons rfl (fun K hK => ?_) AllReadyH.nil
          go_simp
          refine hK.out _ _ ?_ (fun hNew => ?_)
          · exact ⟨HB6.out.drew.alloc HB6.out.drew.size _, (y6.drew).on ((Below.refl w6.drew.heap.size w6.drew).alloc (Nat.le_refl _) _), cell_on ((Below.refl w6.drew.heap.size w6.drew).alloc (Nat.le_refl _) _) (show w6.drew.cell? _ = _ from k0), cell_on ((Below.refl w6.drew.heap.size w6.drew).alloc (Nat.le_refl _) _) (show w6.drew.cell? _ = _ from k1)⟩
          clear hK K hHeld
          have hHeld := hNew
          clear hNew
          try simp only [Act.put, List.getElem_toArray, List.getElem_cons_succ, List.getElem_cons_zero, List.setIfInBounds_toArray, List.set_cons_zero, List.set_cons_succ]
          refine wpAnyH_done (by kernel_rfl) ?_ _
          have HB7 := Lib.hid hHeld.1
          have y7 := hHeld.2.1
          have yx7 : Blk (w6.alloc (.cells #[.string nm, .int .i64 n1, .int .i64 p, .int .i64 q, .int .i64 n4] 48)).drew w6.heap.size 48 #[.string nm, .int .i64 n1, .int .i64 p, .int .i64 q, .int .i64 n4] := (Blk.new w6 48 #[.string nm, .int .i64 n1, .int .i64 p, .int .i64 q, .int .i64 n4]).drew
          clear hHeld y6 k0 k1
          go_wp2_with fail
          by_cases htx : textCl ⟨nm, n1, p, q, n4⟩ = s
          · have hq : ((textCl ⟨nm, n1, p, q, n4⟩).toList == s.toList) = true := by rw [htx]; exact beq_self_eq_true _
            have HO := Lib.hid (show rcF s = (⟨nm, n1, p, q, n4⟩, true) by
              rcases hok : okCl ⟨nm, n1, p, q, n4⟩ with _ | _
              · exfalso
                rw [textCl_no hok] at htx
                have h9 := splitS_len 32 s
                rw [HE.out, ← htx] at h9
                simp at h9
              · have h9 := parse_text hok
                rw [htx] at h9
                exact rcF_some h9)
            clear htx
            refine (implClientText_any ⟨nm, n1, p, q, n4⟩ _ HG.out (tabUp HT.out HB7.out)).mono ?_
            rintro e w8 ⟨rfl, b8⟩
            have y8 := y7.on b8
            have yx8 := yx7.on b8
            have HB8 := Lib.hid (bnext HB7.out b8 (Nat.le_refl _))
            have hc0 := y8.cellAt 0 (by simp)
            have hc1 := y8.cellAt 1 (by simp)
            have hc2 := y8.cellAt 2 (by simp)
            have hc3 := y8.cellAt 3 (by simp)
            have hc4 := y8.cellAt 4 (by simp)
            have hf0 := y8.frozen 0
            have hf1 := y8.frozen 1
            have hf2 := y8.frozen 2
            have hf3 := y8.frozen 3
            have hf4 := y8.frozen 4
            have e0 := yx8.cellAt 0 (by simp)
            have e1 := yx8.cellAt 1 (by simp)
            have e2 := yx8.cellAt 2 (by simp)
            have e3 := yx8.cellAt 3 (by simp)
            have e4 := yx8.cellAt 4 (by simp)
            clear b8 y7 yx7 y8 yx8
            go_wp2
            exact bodyPost_ret (v := .tuple #[.agg #[.string nm, .int .i64 n1, .int .i64 p, .int .i64 q, .int .i64 n4], .bool true]) (by simp [results, Tryz.results39, go_sem, hc0, hc1, hc2, hc3, hc4]) rfl ⟨by rw [HO.out], ((((HB8.out.setCell (Nat.le_refl _) _).setCell (Nat.le_refl _) _).setCell (Nat.le_refl _) _).setCell (Nat.le_refl _) _).setCell (Nat.le_refl _) _⟩
          · have hq : ((textCl ⟨nm, n1, p, q, n4⟩).toList == s.toList) = false := by rw [beq_eq_false_iff_ne, ne_eq, Go.ByteArray.toList_eq, Go.ByteArray.toList_eq]; exact fun q => htx (bytes_ext q)
            have HO := Lib.hid (rcF_none (parseCl_not HE.out (fun n2 s2 f t qq e1 e2 e3 hd ho hp => by
              have h8 := HEQ.out n2 s2 f t qq e1 e2 e3 hd
              rw [h8] at hp
              exact htx (text_parse hp).2)))
            clear htx
            refine (implClientText_any ⟨nm, n1, p, q, n4⟩ _ HG.out (tabUp HT.out HB7.out)).mono ?_
            rintro e w8 ⟨rfl, b8⟩
            have y8 := y7.on b8
            have yx8 := yx7.on b8
            have HB8 := Lib.hid (bnext HB7.out b8 (Nat.le_refl _))
            have hc0 := y8.cellAt 0 (by simp)
            have hc1 := y8.cellAt 1 (by simp)
            have hc2 := y8.cellAt 2 (by simp)
            have hc3 := y8.cellAt 3 (by simp)
            have hc4 := y8.cellAt 4 (by simp)
            have hf0 := y8.frozen 0
            have hf1 := y8.frozen 1
            have hf2 := y8.frozen 2
            have hf3 := y8.frozen 3
            have hf4 := y8.frozen 4
            have e0 := yx8.cellAt 0 (by simp)
            have e1 := yx8.cellAt 1 (by simp)
            have e2 := yx8.cellAt 2 (by simp)
            have e3 := yx8.cellAt 3 (by simp)
            have e4 := yx8.cellAt 4 (by simp)
            clear b8 y7 yx7 y8 yx8
            go_wp2
            exact bodyPost_ret (v := .tuple #[.agg #[.string ⟨#[]⟩, .int .i64 0, .int .i64 0, .int .i64 0, .int .i64 0], .bool false]) (by simp [results, Tryz.results39, go_sem, hc0, hc1, hc2, hc3, hc4]) rfl ⟨by rw [HO.out], ((((HB8.out.setCell (Nat.le_refl _) _).setCell (Nat.le_refl _) _).setCell (Nat.le_refl _) _).setCell (Nat.le_refl _) _).setCell (Nat.le_refl _) _⟩
    · replace c2 := cell_on b4 c2
      have y4 := y3.on b4
      have HB4 := Lib.hid (bnext HB3.out b4 (Nat.le_refl _))
      have HNF := Lib.hid hnf
      clear b4 c1 y3 hnf
      go_wp2_with fail
      refine (trimX_any c _).mono ?_
      rintro e w5 ⟨rfl, rfl⟩
      go_wp2_with fail
      (have hrd := readDecimal_any (trX c) w4 (by omega) (tabUp HT.out HB4.out) (synUp HV.out HB4.out))
      rw [HN4.out, HP4.out] at hrd
      refine hrd.mono ?_
      rintro e w6 ⟨rfl, b6⟩
      have y6 := y4.on b6
      have HB6 := Lib.hid (bnext HB4.out b6 (Nat.le_refl _))
      clear b6 c2 y4 hrd
      have HO := Lib.hid (rcF_none (parseCl_not HE.out (fun n2 s2 f t qq e1 e2 e3 hd ho _ => by
        simp only [decs4, Bool.and_eq_true] at hd
        have h9 := numsF_of e2 hd.2.1 hd.2.2.1
        rw [HNF.out] at h9
        cases h9)))
      have hc0 := y6.cellAt 0 (by simp)
      have hc1 := y6.cellAt 1 (by simp)
      have hc2 := y6.cellAt 2 (by simp)
      have hc3 := y6.cellAt 3 (by simp)
      have hc4 := y6.cellAt 4 (by simp)
      have hf0 := y6.frozen 0
      have hf1 := y6.frozen 1
      have hf2 := y6.frozen 2
      have hf3 := y6.frozen 3
      have hf4 := y6.frozen 4
      clear y6
      rcases p1 with _ | _
      · go_wp2
        exact bodyPost_ret (v := .tuple #[.agg #[.string ⟨#[]⟩, .int .i64 0, .int .i64 0, .int .i64 0, .int .i64 0], .bool false]) (by simp [results, Tryz.results39, go_sem, hc0, hc1, hc2, hc3, hc4]) rfl ⟨by rw [HO.out], ((((HB6.out.setCell (Nat.le_refl _) _).setCell (Nat.le_refl _) _).setCell (Nat.le_refl _) _).setCell (Nat.le_refl _) _).setCell (Nat.le_refl _) _⟩
      · go_wp2
        exact bodyPost_ret (v := .tuple #[.agg #[.string ⟨#[]⟩, .int .i64 0, .int .i64 0, .int .i64 0, .int .i64 0], .bool false]) (by simp [results, Tryz.results39, go_sem, hc0, hc1, hc2, hc3, hc4]) rfl ⟨by rw [HO.out], ((((HB6.out.setCell (Nat.le_refl _) _).setCell (Nat.le_refl _) _).setCell (Nat.le_refl _) _).setCell (Nat.le_refl _) _).setCell (Nat.le_refl _) _⟩
  · have HO := Lib.hid (rcF_none (parseCl_three h3))
    go_enter Tryz.func39, Tryz.ntmps39
    go_wp2_with fail
    refine (strSplit_any s 32 m _ hs hm0).mono ?_
    rintro e w1 ⟨A, n, k, rfl, s1, b1⟩
    have y1 := y0.on b1
    have HB1 := Lib.hid (bnext b0 b1 (Nat.le_refl _))
    clear b1 b0 y0 hm0
    have hn := s1.len
    simp only [strs, List.length_map, Nat.mul_one] at hn
    have hn3 : ((n : Int) != 3) = true := by rw [bne_iff_ne]; omega
    have hc0 := y1.cellAt 0 (by simp)
    have hc1 := y1.cellAt 1 (by simp)
    have hc2 := y1.cellAt 2 (by simp)
    have hc3 := y1.cellAt 3 (by simp)
    have hc4 := y1.cellAt 4 (by simp)
    have hf0 := y1.frozen 0
    have hf1 := y1.frozen 1
    have hf2 := y1.frozen 2
    have hf3 := y1.frozen 3
    have hf4 := y1.frozen 4
    clear s1 y1
    go_wp2
    exact bodyPost_ret (v := .tuple #[.agg #[.string ⟨#[]⟩, .int .i64 0, .int .i64 0, .int .i64 0, .int .i64 0], .bool false]) (by simp [results, Tryz.results39, go_sem, hc0, hc1, hc2, hc3, hc4]) rfl ⟨by rw [HO.out], ((((HB1.out.setCell (Nat.le_refl _) _).setCell (Nat.le_refl _) _).setCell (Nat.le_refl _) _).setCell (Nat.le_refl _) _).setCell (Nat.le_refl _) _⟩
end Go.Proofs.YtjmlcobbjpmjpaaGreatDoor
namespace Go.Proofs.YtjmlcobbjpmjpaaGreatDoor
open Go.RowKit Go.Lib
variable {H : Type} {enc : TypeId × Value → H}

theorem returnsIn_shaped {a : Assume} {C : Checked} {os : Os} {f : FuncId} {fn : Func} {s : ChangeSpec} {conds : List PathCond} {apart fresh handsOn again : Bool} {X : World → Array Value → Prop}
    (hX : ∀ (w w' : World) (args : Array Value), w.heap = w'.heap → X w args → X w' args)
    (own : ownKnob C.prog.godebug = none) (started : os.Started) (noInit : C.prog.inits.idxOf? f = none) (hfn : C.prog.funcs[f]? = some fn)
    (witness : ∃ (w : World) (tape : Tape) (i : Input), w.os = os ∧ (w.forCall tape i).Shaped C.prog ∧ i.vars = [] ∧ Input.okWide C.prog (w.forCall tape i) .any w.heap.size f i ∧
      ((s.pre enc C.prog fn conds apart (w.forCall tape i).memory i.args ∧ X (w.forCall tape i).memory i.args) ∧ sizedMet enc C.prog fn (OpenSpec.ofChange s) apart (w.forCall tape i).memory i.args) ∧ a.holds C.prog (lone (Frame.enter C.prog f i.args .normal) [] (w.forCall tape i)))
    (contract : ∀ (W : World) (base : Nat) (args : Array Value) (ds gs : List (DataW H)) (before : List MemPlace),
      (∀ (j : Nat) t v, fn.params[j]? = some t → args[j]? = some v → Value.okWide C.prog W .any base t v) →
      DataW.Whole enc C.prog fn.params.toList s.vars apart W args.toList ds gs before →
      W.ShapedOpen C.prog → X W args →
      Calls C.prog f args W fun e W' => ∃ v, e = .returned v ∧ s.post enc C.prog fn apart fresh handsOn again W args v W') :
    ReturnsInHanded a C os f .any (fun w args => (s.pre enc C.prog fn conds apart w args ∧ X w args) ∧ sizedMet enc C.prog fn (OpenSpec.ofChange s) apart w args) (s.post enc C.prog fn apart fresh handsOn again) := by
  refine returnsInHanded_of_calls own started noInit witness ?_
  intro w tape i _ hsh _ hok hpre _
  obtain ⟨_, _, _, fn2, hfn2, _, _, _, _, hval⟩ := hok
  obtain rfl : fn2 = fn := Option.some.inj (hfn2.symm.trans hfn)
  obtain ⟨⟨⟨ds, gs, before, hw, hc⟩, hx⟩, hz⟩ := hpre
  refine (contract (w.forCall tape i) w.heap.size i.args ds gs before hval (DataW.Whole.of_heap (w' := w.forCall tape i) (by rfl) hw) hsh (hX _ _ _ (by rfl) hx)).mono fun e W' ⟨v, he, hp⟩ => ?_
  subst he
  exact ChangeSpec.post_blind hp

theorem maxLen_of {W : World} (h : W.ShapedOpen Tryz.prog) : ∃ m, W.cell? ⟨0, 0, none⟩ = some (.int .i64 m) :=
  cell_of_shapedOpen_int (g := 0) (t := 3) h (of_decide_eq_true (by kernel_rfl)) (show _ = some (#[.int .i64 0], 3) by kernel_rfl) rfl (by kernel_rfl) (by kernel_rfl) Tryz.underlying3
theorem star_err : "*" ++ "errors.errorString" = "*errors.errorString" := by decide
theorem err_row (u : TypeId) (h : Tryz.prog.typeName? 3 u = some "*errors.errorString") : u = 290 :=
  typeName_ptr_named (nm := "errors.errorString") (by rw [star_err]; kernel_rfl) (by kernel_rfl) (by decide) u (by rw [star_err]; exact h)
theorem syn_of {r : List (String × DataW Unit)} {W : World} {text : List UInt8} (h : laidMet Tryz.prog (("strconv.ErrSyntax", .iface "*errors.errorString" (.ptr (.agg [.lit (.string text)]))) :: r) W) : SynP W := by
  obtain ⟨a, s, h1, _⟩ := laid_sentinel (g := 2) (ti := 172) (tp := 290) (te := 292) (ts := 9) h (by kernel_rfl) (by kernel_rfl) Tryz.underlying172 err_row Tryz.underlying290 Tryz.underlying292 rfl rfl Tryz.underlying9 (by kernel_rfl) (by kernel_rfl)
  exact ⟨_, _, h1⟩
end Go.Proofs.YtjmlcobbjpmjpaaGreatDoor
