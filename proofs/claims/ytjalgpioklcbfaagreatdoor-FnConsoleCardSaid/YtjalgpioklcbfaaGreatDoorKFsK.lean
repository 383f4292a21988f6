/- The switches seen by trials, and those that are stuck: the program's walk. -/
import Derived.Test.YtjalgpioklcbfaaGreatDoorMgConsoleAN
set_option linter.unusedVariables false
set_option linter.unusedSimpArgs false
namespace Go.Proofs.YtjalgpioklcbfaaGreatDoor
open Go.RowKit Go.Lib

/-- What the first k steps of one trial tell. -/
def trialT (dgE dgA : Nat → Int) (l : List Sn) : Nat → List Sn
  | 0 => l
  | k + 1 => updAt (trialT dgE dgA l k) (nodeF dgE k) (dgE k) (dgE k != dgA k)
theorem trialT_len (dgE dgA : Nat → Int) (l : List Sn) : ∀ k, (trialT dgE dgA l k).length = l.length
  | 0 => rfl
  | k + 1 => by rw [trialT, updAt_len, trialT_len dgE dgA l k]
def seenL (d : Nat) (ts : List Tl) : List Sn := ts.foldl (fun l t => trialT (dgF d t.2) (dgF d t.1) l d) (List.replicate (2 ^ d) sn0)
theorem seenL_snoc {d : Nat} {ts : List Tl} {k : Nat} {t : Tl} (h : ts[k]? = some t) : seenL d (ts.take (k + 1)) = trialT (dgF d t.2) (dgF d t.1) (seenL d (ts.take k)) d := by
  rw [List.take_add_one, h, Option.toList_some, seenL, List.foldl_append]
  rfl
theorem seenL_len (d : Nat) (ts : List Tl) : (seenL d ts).length = 2 ^ d := by
  unfold seenL
  have : ∀ (ts : List Tl) (l : List Sn), (ts.foldl (fun l t => trialT (dgF d t.2) (dgF d t.1) l d) l).length = l.length := by
    intro ts
    induction ts with
    | nil => intro l; rfl
    | cons t ts ih => intro l; rw [List.foldl_cons, ih, trialT_len]
  rw [this, List.length_replicate]
theorem upd_ff {l : List Sn} {v : Nat} : updAt l (v : Int) 0 false = l.set v (snSet (l.getD v sn0) 0) := by
  unfold updAt snUp snSet
  simp
theorem upd_ft {l : List Sn} {v : Nat} : updAt l (v : Int) 1 false = l.set v (snSet (l.getD v sn0) 1) := by
  unfold updAt snUp snSet
  simp
theorem getD_set {l : List Sn} {v : Nat} (hv : v < l.length) (x : Sn) : (l.set v x).getD v sn0 = x := by
  rw [List.getD_eq_getElem?_getD, List.getElem?_set_self hv]; rfl
theorem upd_tf {l : List Sn} {v : Nat} (hv : v < l.length) : updAt l (v : Int) 0 true = (l.set v (snSet (l.getD v sn0) 0)).set v (snSet ((l.set v (snSet (l.getD v sn0) 0)).getD v sn0) 2) := by
  rw [getD_set hv, List.set_set]
  unfold updAt snUp snSet
  simp
theorem upd_tt {l : List Sn} {v : Nat} (hv : v < l.length) : updAt l (v : Int) 1 true = (l.set v (snSet (l.getD v sn0) 1)).set v (snSet ((l.set v (snSet (l.getD v sn0) 1)).getD v sn0) 3) := by
  rw [getD_set hv, List.set_set]
  unfold updAt snUp snSet
  simp
theorem Blk.snSet {w : World} {g : Nat} {t : TypeId} {l : List Sn} (h : Blk w g t (sns l).toArray) (v i : Nat) {o : Nat} (ho : o = v * 4 + i) (hv : v < l.length) (hi : i < 4) : Blk (w.setCell ⟨g, o, none⟩ (.bool true)) g t (sns (l.set v (Go.Proofs.YtjalgpioklcbfaaGreatDoor.snSet (l.getD v sn0) i))).toArray := by
  have := h.set_ o (.bool true)
  rw [← sns_set l v i hv hi, ← ho]
  simpa using this
theorem okTr_d {d : Nat} {l : List Tl} (h : okTr (d : Int) l = true) : 1 ≤ d ∧ d ≤ 4 ∧ l.length ≤ 16 ∧ ∀ t ∈ l, (0 ≤ t.1 ∧ t.1 ≤ 15) ∧ (0 ≤ t.2 ∧ t.2 ≤ 15) := by
  unfold okTr at h
  simp only [Bool.and_eq_true, List.all_eq_true, decide_eq_true_eq] at h
  have hd := inR_true.1 h.1
  have h4 : d ≤ 4 := by omega
  have hp : (2 : Int) ^ d - 1 ≤ 15 := by
    have : d = 1 ∨ d = 2 ∨ d = 3 ∨ d = 4 := by omega
    rcases this with rfl | rfl | rfl | rfl <;> (simp only [Int.reducePow]; omega)
  refine ⟨by omega, h4, h.2.1, fun t ht => ?_⟩
  have := h.2.2 t ht
  unfold okTl at this
  rw [Bool.and_eq_true, Int.toNat_natCast] at this
  have a := inR_true.1 this.1
  have b := inR_true.1 this.2
  exact ⟨⟨a.1, by omega⟩, ⟨b.1, by omega⟩⟩
set_option maxHeartbeats 1000000 in
set_option maxRecDepth 100000 in
theorem seenBy_any (d : Nat) (A : Option Addr) (n c B : Nat) (l : List Tl) (w : World) (h : Reads w B 2 A n (tls l)) (hB : B ≤ w.heap.size) (hok : okTr (d : Int) l = true) :
    Calls Tryz.prog 217 #[.int .i64 (d : Int), .slice A n c] w fun e w' => ∃ g, e = .returned (.tuple #[.slice (some ⟨g, 0, none⟩) (2 ^ d) (2 ^ d), .bool (!(seenL d l).any clash)]) ∧ Blk w' g 252 (sns (seenL d l)).toArray ∧ w.heap.size ≤ g ∧ Below w.heap.size w w' := by
  obtain ⟨h1, hd, hl16, hts⟩ := okTr_d hok
  have hl := tls_len h
  have HL := Lib.hid hl
  have HTS := Lib.hid hts
  have HR := Lib.hid h
  have hn16 : n ≤ 16 := by omega
  have h2d : wrap64 ((2 : Int) ^ d) = ((2 ^ d : Nat) : Int) ∧ 2 ^ d ≤ 16 ∧ 1 ≤ 2 ^ d := by
    have : d = 1 ∨ d = 2 ∨ d = 3 ∨ d = 4 := by omega
    rcases this with rfl | rfl | rfl | rfl <;> exact ⟨by simp only [Int.reducePow]; unfold wrap64; rfl, by decide, by decide⟩
  obtain ⟨N, hN⟩ : ∃ N, 2 ^ d = N := ⟨_, rfl⟩
  rw [hN] at h2d
  obtain ⟨hwr, hN1, hN2⟩ := h2d
  have HSL := Lib.hid (show (List.replicate N sn0) = seenL d (l.take 0) by rw [← hN]; rfl)
  have HLN := Lib.hid (show ∀ ts, (seenL d ts).length = N by intro ts; rw [seenL_len, hN])
  have HN := Lib.hid hN
  have hmk := make_sn N (by omega)
  have hb0 := Blk.new w 252 (madeCells #[.bool false, .bool false, .bool false, .bool false] (N * 4))
  rw [made_sn N, HSL.out] at hb0
  have HB0 := Lib.hid hb0
  have hme := made_sn N
  rw [HSL.out] at hme
  have HME := Lib.hid hme
  have HBL0 := Lib.hid ((Below.refl w.heap.size w).alloc (Nat.le_refl _) (.cells (sns (seenL d (l.take 0))).toArray 252))
  rw [hN]
  clear h hok hl hts hl16 hN hb0 hme
  go_enter Tryz.func217, Tryz.ntmps217
  go_wp2_with fail
  try rw [HME.out]
  go_loopw [18] (fun i wr => ∃ (k : Nat), k ≤ n ∧ i = .int .i64 (k : Int) ∧ Blk wr w.heap.size 252 (sns (seenL d (l.take k))).toArray ∧ Below w.heap.size w wr) (fun i _ => n - (RowKit.intOf i).toNat)
  case atStart => exact ⟨0, Nat.zero_le _, rfl, HB0.out, HBL0.out⟩
  case round =>
    obtain ⟨k, hk, rfl, hblk, hbel⟩ := hrel
    have HY := Lib.hid hblk
    have HBr := Lib.hid hbel
    clear hblk hbel hmk hwr
    have hk0 : (0 : Int) ≤ k := by omega
    by_cases hlt : k < n
    · obtain ⟨t, b, off, he, rfl, hb, c0, c1⟩ := tl_at (HR.out.on hB HBr.out) hlt
      have htb := HTS.out t (List.mem_of_getElem? he)
      have HSN := Lib.hid (seenL_snoc (d := d) he)
      have hkn : (k : Int) < n := by omega
      obtain ⟨ta, te⟩ := t
      simp only at c0 c1 htb HSN
      obtain ⟨⟨hta0, hta1⟩, ⟨hte0, hte1⟩⟩ := htb
      clear he
      go_upto_region 5 with fail
      obtain ⟨u, hu⟩ : ∃ y, wr.alloc (.cells #[.int .i64 ta, .int .i64 te] 132) = y := ⟨_, rfl⟩
      have yu : Blk u wr.heap.size 132 #[.int .i64 ta, .int .i64 te] := by rw [← hu]; exact Blk.new _ _ _
      have bu : Below wr.heap.size wr u := by rw [← hu]; exact (Below.refl _ _).alloc (Nat.le_refl _) _
      rw [hu]
      have p0 := yu.cellAt 0 (by simp)
      have p1 := yu.cellAt 1 (by simp)
      simp only [List.getElem_toArray, List.getElem_cons_zero, List.getElem_cons_succ] at p0 p1
      have HYu := Lib.hid (HY.out.on bu)
      have HBu := Lib.hid (bnext HBr.out bu (Nat.le_refl _))
      have HTu := Lib.hid yu
      have HGW := Lib.hid (show w.heap.size < wr.heap.size from HY.out.lt)
      clear hu yu bu c0 c1
      go_wp2_with fail
      refine (switchesTo_any d te h1 hd hte0 hte1 u).mono ?_
      rintro e w5 ⟨A5, q5, d5, rfl, s5, b5⟩
      have HS5 := Lib.hid s5.low
      have HY5 := Lib.hid (HYu.out.on b5)
      have HT5 := Lib.hid (HTu.out.on b5)
      have HB5 := Lib.hid (bnext HBu.out b5 (Nat.le_refl _))
      have hq5 : d = q5 := by have := ints_len (s5.reads (Nat.le_refl _)); simpa [wayTo] using this
      have HGU := Lib.hid (show wr.heap.size < u.heap.size from HTu.out.lt)
      subst hq5
      clear b5 s5 p0 p1
      obtain ⟨sl, hsl⟩ : ∃ z, seenL d (l.take k) = z := ⟨_, rfl⟩
      have HSL5 := Lib.hid (show sl.length = N by rw [← hsl, HLN.out])
      rw [hsl] at HSN HY5
      clear hsl
      go_wp2_with fail
      go_loopw [27] (fun i wx => ∃ (j : Nat), j ≤ d ∧ i = .int .i64 (j : Int) ∧ Blk wx w.heap.size 252 (sns (trialT (dgF d te) (dgF d ta) sl j)).toArray ∧ Blk wx wr.heap.size 132 #[.int .i64 ta, .int .i64 te] ∧ Sl wx u.heap.size wx.heap.size 2 1 A5 d d5 (ints (wayTo d te d)) ∧ Below w.heap.size w wx) (fun i _ => d - (RowKit.intOf i).toNat)
      case atStart => exact ⟨0, Nat.zero_le _, rfl, HY5.out, HT5.out, HS5.out, HB5.out⟩
      case round =>
        rename World => wx
        obtain ⟨j, hj, rfl, hy, ht, hs, hbel⟩ := hrel
        have HYx := Lib.hid hy
        have HTx := Lib.hid ht
        have HSx := Lib.hid hs
        have HBx := Lib.hid hbel
        clear hy ht hs hbel
        have hj0 : (0 : Int) ≤ j := by omega
        by_cases hjt : j < d
        · obtain ⟨v, b2, off2, he, rfl, hb2, c0⟩ := int_at (HSx.out.reads (Nat.le_refl _)) hjt
          have hv : v = nodeF (dgF d te) j := by
            unfold wayTo at he
            rw [List.getElem?_map, List.getElem?_range (by omega)] at he
            injection he with he
            exact he.symm
          have hvb := nodeF_hi (d := d) (x := te) (k := j) (by omega)
          have hvh := nodeF_bd (dgF_bd d te) j
          rw [← hv] at hvb hvh
          obtain ⟨vn, hvn⟩ := Int.eq_ofNat_of_zero_le (show 0 ≤ v by omega)
          have hvN : vn < N := by
            have h3 : v < (2 : Int) ^ (j + 1) := hvh.2
            have h4 : (2 : Int) ^ (j + 1) ≤ (2 : Int) ^ d := by have := Nat.pow_le_pow_right (n := 2) (by decide) (show j + 1 ≤ d by omega); exact_mod_cast this
            have h5 : ((N : Nat) : Int) = (2 : Int) ^ d := by rw [← HN.out]; exact Int.natCast_pow 2 d
            omega
          have HUP := Lib.hid (show trialT (dgF d te) (dgF d ta) sl (j + 1) = updAt (trialT (dgF d te) (dgF d ta) sl j) (vn : Int) (dgF d te j) (dgF d te j != dgF d ta j) by rw [trialT, ← hv, hvn])
          have HLT := Lib.hid (show (trialT (dgF d te) (dgF d ta) sl j).length = N by rw [trialT_len, HSL5.out])
          subst hvn
          obtain ⟨L, hL⟩ : ∃ z, trialT (dgF d te) (dgF d ta) sl j = z := ⟨_, rfl⟩
          rw [hL] at HYx HUP HLT
          have p0 := HTx.out.cellAt 0 (by simp)
          have p1 := HTx.out.cellAt 1 (by simp)
          simp only [List.getElem_toArray, List.getElem_cons_zero, List.getElem_cons_succ] at p0 p1
          have hjq : (j : Int) < d := by omega
          have hvN2 : (vn : Int) < N := by omega
          clear he hv hL hvh hvb
          have hdb := dgF_bd d te j
          have hda := dgF_bd d ta j
          go_wp2_with fail
          refine (digit_any d j te hd hjt hte0 hte1 wx).mono ?_
          rintro e w6 ⟨rfl, rfl⟩
          have HDA := Lib.hid (digit_any d j ta hd hjt hta0 hta1)
          obtain ⟨x, hx⟩ : ∃ z, dgF d te j = z := ⟨_, rfl⟩
          obtain ⟨y, hy⟩ : ∃ z, dgF d ta j = z := ⟨_, rfl⟩
          rw [hx] at hdb HUP ⊢
          rw [hy] at hda HUP HDA
          clear hx hy
          have hx01 : x = 0 ∨ x = 1 := by omega
          have hy01 : y = 0 ∨ y = 1 := by omega
          clear hdb hda
          have f0 := fun i => HYx.out.frozen i
          have hvL : vn < L.length := by rw [HLT.out]; exact hvN
          obtain ⟨S, hS⟩ : ∃ S, L[vn]? = some S := ⟨_, List.getElem?_eq_getElem hvL⟩
          obtain ⟨s0, s1, s2, s3⟩ := sn_at HYx.out hS
          have HVL := Lib.hid hvL
          clear hS hvL
          rcases hx01 with rfl | rfl
          · go_upto_region 10 with fail
            obtain ⟨u2, hu2⟩ : ∃ y, w6.setCell ⟨w.heap.size, vn * 4, none⟩ (.bool true) = y := ⟨_, rfl⟩
            rw [hu2]
            have y2 : Blk u2 w.heap.size 252 (sns (L.set vn (snSet (L.getD vn sn0) 0))).toArray := by rw [← hu2]; exact HYx.out.snSet vn 0 (by omega) HVL.out (by decide)
            have HT2 := Lib.hid (show Blk u2 wr.heap.size 132 #[.int .i64 ta, .int .i64 te] by rw [← hu2]; exact HTx.out.far (show wr.heap.size ≠ w.heap.size by have := HGW.out; omega) _)
            have HS2 := Lib.hid (show Sl u2 u.heap.size u2.heap.size 2 1 (some ⟨b2, off2, none⟩) d d5 (ints (wayTo d te d)) by rw [← hu2]; exact (HSx.out.setLow (show w.heap.size < u.heap.size by have := HGW.out; have := HGU.out; omega) _).low)
            have HB2 := Lib.hid (show Below w.heap.size w u2 by rw [← hu2]; exact HBx.out.setCell (Nat.le_refl _) _)
            have HY2 := Lib.hid y2
            have p0 := HT2.out.cellAt 0 (by simp)
            have p1 := HT2.out.cellAt 1 (by simp)
            simp only [List.getElem_toArray, List.getElem_cons_zero, List.getElem_cons_succ] at p0 p1
            clear hu2 s0 s1 s2 s3 f0 y2
            go_wp2_with fail
            refine (HDA.out u2).mono ?_
            rintro e w7 ⟨rfl, rfl⟩
            rcases hy01 with rfl | rfl
            · have HU2 := Lib.hid (show trialT (dgF d te) (dgF d ta) sl (j + 1) = L.set vn (snSet (L.getD vn sn0) 0) by rw [HUP.out]; exact upd_ff)
              go_wp2
              go_roundw
              case rel => exact ⟨j + 1, by omega, by go_num, by rw [HU2.out]; exact HY2.out, HT2.out, HS2.out, HB2.out⟩
              case measure => simp [RowKit.intOf]; omega
            · have HU2 := Lib.hid (show trialT (dgF d te) (dgF d ta) sl (j + 1) = (L.set vn (snSet (L.getD vn sn0) 0)).set vn (snSet ((L.set vn (snSet (L.getD vn sn0) 0)).getD vn sn0) 2) by rw [HUP.out]; exact upd_tf HVL.out)
              have hv2 : vn < (L.set vn (snSet (L.getD vn sn0) 0)).length := by rw [List.length_set]; exact HVL.out
              obtain ⟨S2, hS2⟩ : ∃ S, (L.set vn (snSet (L.getD vn sn0) 0))[vn]? = some S := ⟨_, List.getElem?_eq_getElem hv2⟩
              obtain ⟨s0, s1, s2, s3⟩ := sn_at HY2.out hS2
              have f2 := fun i => HY2.out.frozen i
              have HV2 := Lib.hid hv2
              clear hS2 hv2
              go_wp2
              go_roundw
              case rel =>
                refine ⟨j + 1, by omega, by go_num, ?_, ?_, ?_, ?_⟩
                · rw [HU2.out]; exact HY2.out.snSet vn 2 (by omega) HV2.out (by decide)
                · exact HT2.out.far (show wr.heap.size ≠ w.heap.size by have := HGW.out; omega) _
                · exact (HS2.out.setLow (show w.heap.size < u.heap.size by have := HGW.out; have := HGU.out; omega) _).low
                · exact HB2.out.setCell (Nat.le_refl _) _
              case measure => simp [RowKit.intOf]; omega
          · go_upto_region 10 with fail
            obtain ⟨u2, hu2⟩ : ∃ y, w6.setCell ⟨w.heap.size, vn * 4 + 1, none⟩ (.bool true) = y := ⟨_, rfl⟩
            rw [hu2]
            have y2 : Blk u2 w.heap.size 252 (sns (L.set vn (snSet (L.getD vn sn0) 1))).toArray := by rw [← hu2]; exact HYx.out.snSet vn 1 (by omega) HVL.out (by decide)
            have HT2 := Lib.hid (show Blk u2 wr.heap.size 132 #[.int .i64 ta, .int .i64 te] by rw [← hu2]; exact HTx.out.far (show wr.heap.size ≠ w.heap.size by have := HGW.out; omega) _)
            have HS2 := Lib.hid (show Sl u2 u.heap.size u2.heap.size 2 1 (some ⟨b2, off2, none⟩) d d5 (ints (wayTo d te d)) by rw [← hu2]; exact (HSx.out.setLow (show w.heap.size < u.heap.size by have := HGW.out; have := HGU.out; omega) _).low)
            have HB2 := Lib.hid (show Below w.heap.size w u2 by rw [← hu2]; exact HBx.out.setCell (Nat.le_refl _) _)
            have HY2 := Lib.hid y2
            have p0 := HT2.out.cellAt 0 (by simp)
            have p1 := HT2.out.cellAt 1 (by simp)
            simp only [List.getElem_toArray, List.getElem_cons_zero, List.getElem_cons_succ] at p0 p1
            clear hu2 s0 s1 s2 s3 f0 y2
            go_wp2_with fail
            refine (HDA.out u2).mono ?_
            rintro e w7 ⟨rfl, rfl⟩
            rcases hy01 with rfl | rfl
            · have HU2 := Lib.hid (show trialT (dgF d te) (dgF d ta) sl (j + 1) = (L.set vn (snSet (L.getD vn sn0) 1)).set vn (snSet ((L.set vn (snSet (L.getD vn sn0) 1)).getD vn sn0) 3) by rw [HUP.out]; exact upd_tt HVL.out)
              have hv2 : vn < (L.set vn (snSet (L.getD vn sn0) 1)).length := by rw [List.length_set]; exact HVL.out
              obtain ⟨S2, hS2⟩ : ∃ S, (L.set vn (snSet (L.getD vn sn0) 1))[vn]? = some S := ⟨_, List.getElem?_eq_getElem hv2⟩
              obtain ⟨s0, s1, s2, s3⟩ := sn_at HY2.out hS2
              have f2 := fun i => HY2.out.frozen i
              have HV2 := Lib.hid hv2
              clear hS2 hv2
              go_wp2
              go_roundw
              case rel =>
                refine ⟨j + 1, by omega, by go_num, ?_, ?_, ?_, ?_⟩
                · rw [HU2.out]; exact HY2.out.snSet vn 3 (by omega) HV2.out (by decide)
                · exact HT2.out.far (show wr.heap.size ≠ w.heap.size by have := HGW.out; omega) _
                · exact (HS2.out.setLow (show w.heap.size < u.heap.size by have := HGW.out; have := HGU.out; omega) _).low
                · exact HB2.out.setCell (Nat.le_refl _) _
              case measure => simp [RowKit.intOf]; omega
            · have HU2 := Lib.hid (show trialT (dgF d te) (dgF d ta) sl (j + 1) = L.set vn (snSet (L.getD vn sn0) 1) by rw [HUP.out]; exact upd_ft)
              go_wp2
              go_roundw
              case rel => exact ⟨j + 1, by omega, by go_num, by rw [HU2.out]; exact HY2.out, HT2.out, HS2.out, HB2.out⟩
              case measure => simp [RowKit.intOf]; omega
        · obtain rfl : d = j := by omega
          go_wp2
          go_roundw
          case rel => exact ⟨k + 1, by omega, by go_num, by rw [HSN.out]; exact HYx.out, HBx.out⟩
          case measure => simp [RowKit.intOf]; omega
    · obtain rfl : n = k := by omega
      have HLT := Lib.hid (show l.take n = l by rw [← HL.out, List.take_length])
      have hy := HY.out
      rw [HLT.out] at hy
      have HY2 := Lib.hid hy
      clear hy
      go_wp2_with fail
      refine (containsFuncSn_any N N w.heap.size _ wr HY2.out (HLN.out _) (by omega)).mono ?_
      rintro e w6 ⟨rfl, b6⟩
      have HY6 := Lib.hid (HY2.out.on b6)
      have HB6 := Lib.hid (bnext HBr.out b6 (Nat.le_refl _))
      clear b6
      go_wp2
      go_ret2
      exact ⟨w.heap.size, rfl, HY6.out, Nat.le_refl _, HB6.out⟩
end Go.Proofs.YtjalgpioklcbfaaGreatDoor
