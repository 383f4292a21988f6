/- ReadClient, as the reference does it. -/
import Derived.Test.YtafbehpgnmdglaaDoorRcP
import Derived.Test.YtafbehpgnmdglaaDoorNumS
import Derived.Test.YtafbehpgnmdglaaDoorSpl
import Derived.Test.YtafbehpgnmdglaaDoorClA
import Derived.IntWalk
set_option linter.unusedVariables false
set_option linter.unusedSimpArgs false
namespace Go.Proofs.YtafbehpgnmdglaaDoor
open Go.RowKit Go.Lib

def rcF (s : ByteArray) : Cl × Bool := match parseCl s with
  | some y => (y, true)
  | none => (⟨⟨#[]⟩, 0, 0, 0, 0⟩, false)
theorem rcF_some {s : ByteArray} {y : Cl} (h : parseCl s = some y) : rcF s = (y, true) := by simp [rcF, h]
theorem rcF_none {s : ByteArray} (h : parseCl s = none) : rcF s = (⟨⟨#[]⟩, 0, 0, 0, 0⟩, false) := by simp [rcF, h]
theorem isDec_nil : isDec [] = false := rfl
theorem partsCl_nil {v d : List ByteArray} : partsCl v d (asBytes []) = none := by
  unfold partsCl
  split
  · rw [if_neg]
    simp [decs4, data_asBytes, isDec_nil]
  · rfl
theorem parseCl_short {s a b c : ByteArray} (h : splitS 32 s = [a, b, c]) (hc : c.size < 2) : parseCl s = none := by
  by_cases hx : ∃ q, c.data.toList = 120 :: q
  · obtain ⟨q, hq⟩ := hx
    have hl := data_len c
    rw [hq, List.length_cons] at hl
    have : q = [] := List.length_eq_zero_iff.1 (by omega)
    subst this
    rw [parseCl_eq h hq, partsCl_nil]
  · exact parseCl_x h (fun q hq => hx ⟨q, hq⟩)
theorem three_sizes {line a b c : ByteArray} (h : splitS 32 line = [a, b, c]) : a.size ≤ line.size ∧ b.size ≤ line.size ∧ c.size ≤ line.size := by
  have h1 := congrArg List.length (join_split h)
  simp only [List.map_cons, List.map_nil, joinL, List.length_append, List.length_cons, data_len] at h1
  omega
theorem two_sizes {k : UInt8} {line a b : ByteArray} (h : splitS k line = [a, b]) : a.size ≤ line.size ∧ b.size ≤ line.size := by
  have h1 := congrArg List.length (join_split h)
  simp only [List.map_cons, List.map_nil, joinL, List.length_append, List.length_cons, data_len] at h1
  omega
theorem sl_strs3 {w : World} {lo hi n k : Nat} {A : Option Addr} {a b c : ByteArray} (h : Sl w lo hi 9 1 A n k (strs [a, b, c])) : n = 3 ∧ ∃ g, A = some ⟨g, 0, none⟩ ∧ w.cell? ⟨g, 0, none⟩ = some (.string a) ∧ w.cell? ⟨g, 1, none⟩ = some (.string b) ∧ w.cell? ⟨g, 2, none⟩ = some (.string c) := by
  have hn := h.len
  simp [strs] at hn
  subst hn
  obtain ⟨g, rfl, _, _, _⟩ := h.lt (by omega)
  exact ⟨rfl, g, rfl, h.cellAt 0 (by omega), h.cellAt 1 (by omega), h.cellAt 2 (by omega)⟩
theorem sl_strs2 {w : World} {lo hi n k : Nat} {A : Option Addr} {a b : ByteArray} (h : Sl w lo hi 9 1 A n k (strs [a, b])) : n = 2 ∧ ∃ g, A = some ⟨g, 0, none⟩ ∧ w.cell? ⟨g, 0, none⟩ = some (.string a) ∧ w.cell? ⟨g, 1, none⟩ = some (.string b) := by
  have hn := h.len
  simp [strs] at hn
  subst hn
  obtain ⟨g, rfl, _, _, _⟩ := h.lt (by omega)
  exact ⟨rfl, g, rfl, h.cellAt 0 (by omega), h.cellAt 1 (by omega)⟩
theorem head_x {c : ByteArray} (h : 0 < c.size) (hx : c[0] = 120) : c.data.toList = 120 :: (c.extract 1 c.size).data.toList := by
  have hl := data_len c
  rw [extract_to_end]
  have h1 := byte_at c 0 h
  cases hc : c.data.toList with
  | nil => rw [hc] at hl; simp at hl; omega
  | cons y r =>
    rw [hc] at h1
    simp at h1
    rw [h1, hx]
    simp
theorem head_no {c : ByteArray} (h : 0 < c.size) (hx : c[0] ≠ 120) : ∀ q, c.data.toList ≠ 120 :: q := by
  intro q hq
  have h1 := byte_at c 0 h
  rw [hq] at h1
  simp at h1
  exact hx h1.symm

theorem readN_snd (s : List UInt8) : (readN s).2 = isDec s := by unfold readN; split <;> simp_all
theorem readN_fstT {s : List UInt8} (h : isDec s = true) : (readN s).1 = numS s := by rw [readN_yes h]

set_option maxHeartbeats 4000000 in
set_option maxRecDepth 100000 in
theorem specReadClient_any (s : ByteArray) (w : World) (hs : s.size ≤ 1048576) :
    Calls Tryd.prog 37 #[.string s] w fun e w' => e = .returned (.tuple #[.agg #[.string (rcF s).1.name, .int .i64 (rcF s).1.station, .int .i64 (rcF s).1.from_, .int .i64 (rcF s).1.to_, .int .i64 (rcF s).1.quota], .bool (rcF s).2]) ∧ Below w.heap.size w w' := by
  have b0 : Below w.heap.size w (w.alloc (.cells #[.string ⟨#[]⟩, .int .i64 0, .int .i64 0, .int .i64 0, .int .i64 0] 26)) := (Below.refl _ _).alloc (Nat.le_refl _) _
  have y0 := Blk.new w 26 #[.string ⟨#[]⟩, .int .i64 0, .int .i64 0, .int .i64 0, .int .i64 0]
  by_cases h3 : (splitS 32 s).length = 3
  · obtain ⟨a, b, c, he⟩ := three_of h3
    obtain ⟨za, zb, zc⟩ := three_sizes he
    clear h3
    by_cases h2 : c.size < 2
    · have HO := Lib.hid (rcF_none (parseCl_short he h2))
      have hi2 : (c.size : Int) < 2 := by omega
      go_enter Tryd.func37, Tryd.ntmps37
      go_wp2_with fail
      refine (l01Split_any s 32 _ hs).mono ?_
      rintro e w1 ⟨A, n, k, rfl, s1, b1⟩
      have y1 := y0.on b1
      have HB1 := Lib.hid (bnext b0 b1 (Nat.le_refl _))
      clear b1 b0 y0
      rw [he] at s1
      obtain ⟨rfl, g, rfl, c0, c1, c2⟩ := sl_strs3 s1
      clear s1
      have hc0 := y1.cellAt 0 (by simp)
      have hc1 := y1.cellAt 1 (by simp)
      have hc2 := y1.cellAt 2 (by simp)
      have hc3 := y1.cellAt 3 (by simp)
      have hc4 := y1.cellAt 4 (by simp)
      have hf0 := y1.frozen 0
      have hf1 := y1.frozen 1
      have hf2 := y1.frozen 2
      have hf3 := y1.frozen 3
      have hf4 := y1.frozen 4
      clear y1
      go_wp2
      exact bodyPost_ret (v := .tuple #[.agg #[.string ⟨#[]⟩, .int .i64 0, .int .i64 0, .int .i64 0, .int .i64 0], .bool false]) (by simp [results, Tryd.results37, go_sem, hc0, hc1, hc2, hc3, hc4]) rfl ⟨by rw [HO.out], ((((HB1.out.setCell (Nat.le_refl _) _).setCell (Nat.le_refl _) _).setCell (Nat.le_refl _) _).setCell (Nat.le_refl _) _).setCell (Nat.le_refl _) _⟩
    · have hi2 : ¬ ((c.size : Int) < 2) := by omega
      have hcs : 0 < c.size := by omega
      have hcsi : (0 : Int) < (c.size : Int) := by omega
      by_cases hx : c[0] = 120
      · have hq := head_x hcs hx
        have hxi : ((c[0].toNat : Int) != 120) = false := by rw [hx]; rfl
        have hxi2 : ((c[0].toNat : Int) == 120) = true := by rw [hx]; rfl
        have HP := Lib.hid (parseCl_eq he hq)
        rw [asBytes_data] at HP
        have hqs : (c.extract 1 c.size).size ≤ 1048576 := by rw [ByteArray.size_extract]; omega
        have h1c : (1 : Int) ≤ (c.size : Int) := by omega
        clear hx hq
        go_enter Tryd.func37, Tryd.ntmps37
        go_wp2_with fail
        refine (l01Split_any s 32 _ hs).mono ?_
        rintro e w1 ⟨A, n, k, rfl, s1, b1⟩
        have y1 := y0.on b1
        have HB1 := Lib.hid (bnext b0 b1 (Nat.le_refl _))
        clear b1 b0 y0
        rw [he] at s1
        obtain ⟨rfl, g, rfl, c0, c1, c2⟩ := sl_strs3 s1
        clear s1
        go_wp2_with fail
        refine (l01Split_any a 64 _ (by omega)).mono ?_
        rintro e w2 ⟨A2, n2, k2, rfl, s2, b2⟩
        replace c1 := cell_on b2 c1
        replace c2 := cell_on b2 c2
        have y2 := y1.on b2
        have HB2 := Lib.hid (bnext HB1.out b2 (Nat.le_refl _))
        clear b2 c0 y1
        go_wp2_with fail
        refine (l01Split_any b 45 _ (by omega)).mono ?_
        rintro e w3 ⟨A3, n3, k3, rfl, s3, b3⟩
        replace c2 := cell_on b3 c2
        replace s2 := s2.on b3
        have y3 := y2.on b3
        have HB3 := Lib.hid (bnext HB2.out b3 (Nat.le_refl _))
        clear b3 c1 y2
        have hl2 := s2.len
        have hl3 := s3.len
        simp only [strs, List.length_map, Nat.mul_one] at hl2 hl3
        by_cases hv : (splitS 64 a).length = 2
        · by_cases hd : (splitS 45 b).length = 2
          · obtain ⟨nm, st, e1⟩ := two_of hv
            obtain ⟨f, t, e2⟩ := two_of hd
            rw [e1] at s2
            rw [e2] at s3
            obtain ⟨rfl, g2, rfl, u0, u1⟩ := sl_strs2 s2
            obtain ⟨rfl, g3, rfl, v0, v1⟩ := sl_strs2 s3
            obtain ⟨zn, zst⟩ := two_sizes e1
            obtain ⟨zf, zt⟩ := two_sizes e2
            rw [e1, e2] at HP
            clear s2 s3 hl2 hl3 hv hd e1 e2
            obtain ⟨q, hqq⟩ : ∃ y, c.extract 1 c.size = y := ⟨_, rfl⟩
            rw [hqq] at HP hqs
            go_wp2_with fail
            refine (l01Number_any st _ (by omega)).mono ?_
            rintro e w4 ⟨rfl, b4⟩
            replace c2 := cell_on b4 c2
            replace u0 := cell_on b4 u0
            replace v0 := cell_on b4 v0
            replace v1 := cell_on b4 v1
            have y4 := y3.on b4
            have HB4 := Lib.hid (bnext HB3.out b4 (Nat.le_refl _))
            clear b4 u1 y3
            go_wp2_with fail
            refine (l01Number_any f _ (by omega)).mono ?_
            rintro e w5 ⟨rfl, b5⟩
            replace c2 := cell_on b5 c2
            replace u0 := cell_on b5 u0
            replace v1 := cell_on b5 v1
            have y5 := y4.on b5
            have HB5 := Lib.hid (bnext HB4.out b5 (Nat.le_refl _))
            clear b5 v0 y4
            go_wp2_with fail
            refine (l01Number_any t _ (by omega)).mono ?_
            rintro e w6 ⟨rfl, b6⟩
            replace c2 := cell_on b6 c2
            replace u0 := cell_on b6 u0
            have y6 := y5.on b6
            have HB6 := Lib.hid (bnext HB5.out b6 (Nat.le_refl _))
            clear b6 v1 y5
            go_wp2_with fail
            refine (l01Number_any q _ (by omega)).mono ?_
            rintro e w7 ⟨rfl, b7⟩
            replace u0 := cell_on b7 u0
            have y7 := y6.on b7
            have HB7 := Lib.hid (bnext HB6.out b7 (Nat.le_refl _))
            clear b7 c2 y6 hqq
            have x1 := readN_bd st.data.toList
            have x2 := readN_bd f.data.toList
            have x3 := readN_bd t.data.toList
            have x4 := readN_bd q.data.toList
            have hdd : decs4 st f t q = ((readN st.data.toList).2 && ((readN f.data.toList).2 && ((readN t.data.toList).2 && (readN q.data.toList).2))) := by
              simp only [decs4, readN_snd]
            have hcl : decs4 st f t q = true → clOf nm st f t q = ⟨nm, (readN st.data.toList).1, (readN f.data.toList).1, (readN t.data.toList).1, (readN q.data.toList).1⟩ := fun h => by
              simp only [decs4, Bool.and_eq_true] at h
              simp only [clOf, readN_fstT h.1, readN_fstT h.2.1, readN_fstT h.2.2.1, readN_fstT h.2.2.2]
            obtain ⟨n1, hn1⟩ : ∃ v, (readN st.data.toList).1 = v := ⟨_, rfl⟩
            obtain ⟨n2, hn2⟩ : ∃ v, (readN f.data.toList).1 = v := ⟨_, rfl⟩
            obtain ⟨n3, hn3⟩ : ∃ v, (readN t.data.toList).1 = v := ⟨_, rfl⟩
            obtain ⟨n4, hn4⟩ : ∃ v, (readN q.data.toList).1 = v := ⟨_, rfl⟩
            obtain ⟨p1, hp1⟩ : ∃ v, (readN st.data.toList).2 = v := ⟨_, rfl⟩
            obtain ⟨p2, hp2⟩ : ∃ v, (readN f.data.toList).2 = v := ⟨_, rfl⟩
            obtain ⟨p3, hp3⟩ : ∃ v, (readN t.data.toList).2 = v := ⟨_, rfl⟩
            obtain ⟨p4, hp4⟩ : ∃ v, (readN q.data.toList).2 = v := ⟨_, rfl⟩
            simp only [hn1, hn2, hn3, hn4, hp1, hp2, hp3, hp4] at x1 x2 x3 x4 hdd hcl ⊢
            clear hn1 hn2 hn3 hn4 hp1 hp2 hp3 hp4
            have HCL := Lib.hid hcl
            have HDD := Lib.hid hdd
            clear hcl hdd
            obtain ⟨wq, hwq⟩ : ∃ y, w7.alloc (.cells #[.string nm, .int .i64 n1, .int .i64 n2, .int .i64 n3, .int .i64 n4] 26) = y := ⟨_, rfl⟩
            have bq : Below w7.heap.size w7 wq := by rw [← hwq]; exact (Below.refl _ _).alloc (Nat.le_refl _) _
            have yx : Blk wq w7.heap.size 26 #[.string nm, .int .i64 n1, .int .i64 n2, .int .i64 n3, .int .i64 n4] := by rw [← hwq]; exact Blk.new _ _ _
            have y8 := y7.on bq
            have HB8 := Lib.hid (bnext HB7.out bq (Nat.le_refl _))
            have e0 : wq.cell? ⟨w7.heap.size, 0, none⟩ = some (.string nm) := yx.cellAt 0 (by simp)
            have e1 : wq.cell? ⟨w7.heap.size, 0 + 1, none⟩ = some (.int .i64 n1) := yx.cellAt 1 (by simp)
            have e2 : wq.cell? ⟨w7.heap.size, 0 + 2, none⟩ = some (.int .i64 n2) := yx.cellAt 2 (by simp)
            have e3 : wq.cell? ⟨w7.heap.size, 0 + 3, none⟩ = some (.int .i64 n3) := yx.cellAt 3 (by simp)
            have e4 : wq.cell? ⟨w7.heap.size, 0 + 4, none⟩ = some (.int .i64 n4) := yx.cellAt 4 (by simp)
            have d1 : wq.cell? ⟨w7.heap.size, 1, none⟩ = some (.int .i64 n1) := e1
            have d2 : wq.cell? ⟨w7.heap.size, 2, none⟩ = some (.int .i64 n2) := e2
            have d3 : wq.cell? ⟨w7.heap.size, 3, none⟩ = some (.int .i64 n3) := e3
            have d4 : wq.cell? ⟨w7.heap.size, 4, none⟩ = some (.int .i64 n4) := e4
            have hc0 := y8.cellAt 0 (by simp)
            have hc1 := y8.cellAt 1 (by simp)
            have hc2 := y8.cellAt 2 (by simp)
            have hc3 := y8.cellAt 3 (by simp)
            have hc4 := y8.cellAt 4 (by simp)
            have hf0 := y8.frozen 0
            have hf1 := y8.frozen 1
            have hf2 := y8.frozen 2
            have hf3 := y8.frozen 3
            have hf4 := y8.frozen 4
            clear y7 y8 yx bq
            rcases p1 with _ | _
            · have HO := Lib.hid (rcF_none (by rw [HP.out]; exact partsCl_no (by rw [HDD.out, Bool.false_and])))
              go_wp2
              exact bodyPost_ret (v := .tuple #[.agg #[.string ⟨#[]⟩, .int .i64 0, .int .i64 0, .int .i64 0, .int .i64 0], .bool false]) (by simp [results, Tryd.results37, go_sem, hc0, hc1, hc2, hc3, hc4]) rfl ⟨by rw [HO.out], ((((HB8.out.setCell (Nat.le_refl _) _).setCell (Nat.le_refl _) _).setCell (Nat.le_refl _) _).setCell (Nat.le_refl _) _).setCell (Nat.le_refl _) _⟩
            · rcases p2 with _ | _
              · have HO := Lib.hid (rcF_none (by rw [HP.out]; exact partsCl_no (by rw [HDD.out, Bool.false_and, Bool.and_false])))
                go_wp2
                exact bodyPost_ret (v := .tuple #[.agg #[.string ⟨#[]⟩, .int .i64 0, .int .i64 0, .int .i64 0, .int .i64 0], .bool false]) (by simp [results, Tryd.results37, go_sem, hc0, hc1, hc2, hc3, hc4]) rfl ⟨by rw [HO.out], ((((HB8.out.setCell (Nat.le_refl _) _).setCell (Nat.le_refl _) _).setCell (Nat.le_refl _) _).setCell (Nat.le_refl _) _).setCell (Nat.le_refl _) _⟩
              · rcases p3 with _ | _
                · have HO := Lib.hid (rcF_none (by rw [HP.out]; exact partsCl_no (by rw [HDD.out, Bool.false_and, Bool.and_false, Bool.and_false])))
                  go_wp2
                  exact bodyPost_ret (v := .tuple #[.agg #[.string ⟨#[]⟩, .int .i64 0, .int .i64 0, .int .i64 0, .int .i64 0], .bool false]) (by simp [results, Tryd.results37, go_sem, hc0, hc1, hc2, hc3, hc4]) rfl ⟨by rw [HO.out], ((((HB8.out.setCell (Nat.le_refl _) _).setCell (Nat.le_refl _) _).setCell (Nat.le_refl _) _).setCell (Nat.le_refl _) _).setCell (Nat.le_refl _) _⟩
                · rcases p4 with _ | _
                  · have HO := Lib.hid (rcF_none (by rw [HP.out]; exact partsCl_no (by rw [HDD.out]; rfl)))
                    go_wp2
                    exact bodyPost_ret (v := .tuple #[.agg #[.string ⟨#[]⟩, .int .i64 0, .int .i64 0, .int .i64 0, .int .i64 0], .bool false]) (by simp [results, Tryd.results37, go_sem, hc0, hc1, hc2, hc3, hc4]) rfl ⟨by rw [HO.out], ((((HB8.out.setCell (Nat.le_refl _) _).setCell (Nat.le_refl _) _).setCell (Nat.le_refl _) _).setCell (Nat.le_refl _) _).setCell (Nat.le_refl _) _⟩
                  · have hd4 : decs4 st f t q = true := by rw [HDD.out]; rfl
                    have hc4' := HCL.out hd4
                    have hxg : Cl.good ⟨nm, n1, n2, n3, n4⟩ := by refine ⟨?_, ⟨?_, ?_⟩, ⟨?_, ?_⟩, ⟨?_, ?_⟩, ⟨?_, ?_⟩⟩ <;> simp only <;> omega
                    have hzz : nm.size ≤ 9223372036854775807 := by omega
                    rcases hok : okCl ⟨nm, n1, n2, n3, n4⟩ with _ | _
                    · have HO := Lib.hid (rcF_none (by rw [HP.out]; exact partsCl_bad (by rw [hc4']; exact hok)))
                      go_wp2_with fail
                      (have hk := l24One_any ⟨nm, n1, n2, n3, n4⟩ w7.heap.size 0 wq hzz hxg e0 e1 e2 e3 e4)
                      rw [hok] at hk
                      refine hk.mono ?_
                      rintro e w9 ⟨rfl, m9, rfl⟩
                      clear hk e1 e2 e3 e4
                      go_wp2
                      exact bodyPost_ret (v := .tuple #[.agg #[.string ⟨#[]⟩, .int .i64 0, .int .i64 0, .int .i64 0, .int .i64 0], .bool false]) (by simp [results, Tryd.results37, go_sem, hc0, hc1, hc2, hc3, hc4]) rfl ⟨by rw [HO.out], (((((below_drewN HB8.out m9).setCell (Nat.le_refl _) _).setCell (Nat.le_refl _) _).setCell (Nat.le_refl _) _).setCell (Nat.le_refl _) _).setCell (Nat.le_refl _) _⟩
                    · have HO := Lib.hid (rcF_some (by rw [HP.out, partsCl_yes hd4 (by rw [hc4']; exact hok), hc4']))
                      go_wp2_with fail
                      (have hk := l24One_any ⟨nm, n1, n2, n3, n4⟩ w7.heap.size 0 wq hzz hxg e0 e1 e2 e3 e4)
                      rw [hok] at hk
                      refine hk.mono ?_
                      rintro e w9 ⟨rfl, m9, rfl⟩
                      clear hk e1 e2 e3 e4
                      go_wp2
                      exact bodyPost_ret (v := .tuple #[.agg #[.string nm, .int .i64 n1, .int .i64 n2, .int .i64 n3, .int .i64 n4], .bool true]) (by simp [results, Tryd.results37, go_sem, hc0, hc1, hc2, hc3, hc4]) rfl ⟨by rw [HO.out], (((((below_drewN HB8.out m9).setCell (Nat.le_refl _) _).setCell (Nat.le_refl _) _).setCell (Nat.le_refl _) _).setCell (Nat.le_refl _) _).setCell (Nat.le_refl _) _⟩
          · have HO := Lib.hid (rcF_none (by rw [HP.out]; exact partsCl_len (.inr hd)))
            have hc0 := y3.cellAt 0 (by simp)
            have hc1 := y3.cellAt 1 (by simp)
            have hc2 := y3.cellAt 2 (by simp)
            have hc3 := y3.cellAt 3 (by simp)
            have hc4 := y3.cellAt 4 (by simp)
            have hf0 := y3.frozen 0
            have hf1 := y3.frozen 1
            have hf2 := y3.frozen 2
            have hf3 := y3.frozen 3
            have hf4 := y3.frozen 4
            have hn22 : n2 = 2 := by omega
            have hq2 : ((n2 : Int) != 2) = false := by rw [hn22]; rfl
            have hq3 : ((n3 : Int) != 2) = true := by rw [bne_iff_ne]; omega
            clear y3 s2 s3 hl2 hl3 hn22
            go_wp2
            exact bodyPost_ret (v := .tuple #[.agg #[.string ⟨#[]⟩, .int .i64 0, .int .i64 0, .int .i64 0, .int .i64 0], .bool false]) (by simp [results, Tryd.results37, go_sem, hc0, hc1, hc2, hc3, hc4]) rfl ⟨by rw [HO.out], ((((HB3.out.setCell (Nat.le_refl _) _).setCell (Nat.le_refl _) _).setCell (Nat.le_refl _) _).setCell (Nat.le_refl _) _).setCell (Nat.le_refl _) _⟩
        · have HO := Lib.hid (rcF_none (by rw [HP.out]; exact partsCl_len (.inl hv)))
          have hc0 := y3.cellAt 0 (by simp)
          have hc1 := y3.cellAt 1 (by simp)
          have hc2 := y3.cellAt 2 (by simp)
          have hc3 := y3.cellAt 3 (by simp)
          have hc4 := y3.cellAt 4 (by simp)
          have hf0 := y3.frozen 0
          have hf1 := y3.frozen 1
          have hf2 := y3.frozen 2
          have hf3 := y3.frozen 3
          have hf4 := y3.frozen 4
          have hq2 : ((n2 : Int) != 2) = true := by rw [bne_iff_ne]; omega
          clear y3 s2 s3 hl2 hl3
          go_wp2
          exact bodyPost_ret (v := .tuple #[.agg #[.string ⟨#[]⟩, .int .i64 0, .int .i64 0, .int .i64 0, .int .i64 0], .bool false]) (by simp [results, Tryd.results37, go_sem, hc0, hc1, hc2, hc3, hc4]) rfl ⟨by rw [HO.out], ((((HB3.out.setCell (Nat.le_refl _) _).setCell (Nat.le_refl _) _).setCell (Nat.le_refl _) _).setCell (Nat.le_refl _) _).setCell (Nat.le_refl _) _⟩
      · have HO := Lib.hid (rcF_none (parseCl_x he (head_no hcs hx)))
        have hxi : ((c[0].toNat : Int) != 120) = true := by
          rw [bne_iff_ne]
          intro e
          exact hx (by rw [← UInt8.toNat_inj]; exact Int.ofNat_inj.1 e)
        have hxi2 : ((c[0].toNat : Int) == 120) = false := by
          rw [beq_eq_false_iff_ne]
          intro e
          exact hx (by rw [← UInt8.toNat_inj]; exact Int.ofNat_inj.1 e)
        clear hx
        go_enter Tryd.func37, Tryd.ntmps37
        go_wp2_with fail
        refine (l01Split_any s 32 _ hs).mono ?_
        rintro e w1 ⟨A, n, k, rfl, s1, b1⟩
        have y1 := y0.on b1
        have HB1 := Lib.hid (bnext b0 b1 (Nat.le_refl _))
        clear b1 b0 y0
        rw [he] at s1
        obtain ⟨rfl, g, rfl, c0, c1, c2⟩ := sl_strs3 s1
        clear s1
        have hc0 := y1.cellAt 0 (by simp)
        have hc1 := y1.cellAt 1 (by simp)
        have hc2 := y1.cellAt 2 (by simp)
        have hc3 := y1.cellAt 3 (by simp)
        have hc4 := y1.cellAt 4 (by simp)
        have hf0 := y1.frozen 0
        have hf1 := y1.frozen 1
        have hf2 := y1.frozen 2
        have hf3 := y1.frozen 3
        have hf4 := y1.frozen 4
        clear y1
        go_wp2
        exact bodyPost_ret (v := .tuple #[.agg #[.string ⟨#[]⟩, .int .i64 0, .int .i64 0, .int .i64 0, .int .i64 0], .bool false]) (by simp [results, Tryd.results37, go_sem, hc0, hc1, hc2, hc3, hc4]) rfl ⟨by rw [HO.out], ((((HB1.out.setCell (Nat.le_refl _) _).setCell (Nat.le_refl _) _).setCell (Nat.le_refl _) _).setCell (Nat.le_refl _) _).setCell (Nat.le_refl _) _⟩
  · have HO := Lib.hid (rcF_none (parseCl_three h3))
    go_enter Tryd.func37, Tryd.ntmps37
    go_wp2_with fail
    refine (l01Split_any s 32 _ hs).mono ?_
    rintro e w1 ⟨A, n, k, rfl, s1, b1⟩
    have y1 := y0.on b1
    have HB1 := Lib.hid (bnext b0 b1 (Nat.le_refl _))
    clear b1 b0 y0
    have hn := s1.len
    simp only [strs, List.length_map, Nat.mul_one] at hn
    have hn3 : ((n : Int) != 3) = true := by rw [bne_iff_ne]; omega
    have hc0 := y1.cellAt 0 (by simp)
    have hc1 := y1.cellAt 1 (by simp)
    have hc2 := y1.cellAt 2 (by simp)
    have hc3 := y1.cellAt 3 (by simp)
    have hc4 := y1.cellAt 4 (by simp)
    have hf0 := y1.frozen 0
    have hf1 := y1.frozen 1
    have hf2 := y1.frozen 2
    have hf3 := y1.frozen 3
    have hf4 := y1.frozen 4
    clear s1 y1
    go_wp2
    exact bodyPost_ret (v := .tuple #[.agg #[.string ⟨#[]⟩, .int .i64 0, .int .i64 0, .int .i64 0, .int .i64 0], .bool false]) (by simp [results, Tryd.results37, go_sem, hc0, hc1, hc2, hc3, hc4]) rfl ⟨by rw [HO.out], ((((HB1.out.setCell (Nat.le_refl _) _).setCell (Nat.le_refl _) _).setCell (Nat.le_refl _) _).setCell (Nat.le_refl _) _).setCell (Nat.le_refl _) _⟩
end Go.Proofs.YtafbehpgnmdglaaDoor
