/- Whether a tube is free, as the program answers. -/
import Derived.Test.YtjalgpioklcbfaaGreatDoorMgConsoleAM
set_option linter.unusedVariables false
set_option linter.unusedSimpArgs false
namespace Go.Proofs.YtjalgpioklcbfaaGreatDoor
open Go.RowKit Go.Lib

theorem taken_len2 {ts : List Int} {rs : List Rn} (h : okRuns ts rs = true) (k : Nat) : (taken ts (rs.take k)).length ≤ 12 * k := by
 have h2 := taken_len (ts := ts) (rs := rs.take k) (fun r hr => by
  have hr := List.mem_of_mem_take hr
  obtain ⟨k, hk, he⟩ := List.getElem_of_mem hr
  exact (okWay_mem (okRuns_at h (by rw [List.getElem?_eq_getElem hk, he])).1).1)
 rw [List.length_take] at h2
 have h3 : min k rs.length ≤ k := Nat.min_le_left _ _
 omega
theorem filter_take_snoc {α : Type} {p : α → Bool} {l : List α} {j : Nat} {x : α} (h : l[j]? = some x) : (l.take (j + 1)).filter p = (l.take j).filter p ++ (if p x then [x] else []) := by
 rw [List.take_add_one, h, Option.toList_some, List.filter_append]
 congr 1
 rcases e : p x with _ | _ <;> simp [e]
set_option maxHeartbeats 4000000 in
set_option maxRecDepth 100000 in
theorem spansIn_any (Q : Option Addr) (m d : Nat) (ts : List Int) (RA : Option Addr) (rn rc : Nat) (rs : List Rn) (B : Nat) (tube : Int) (w : World) (ht : Reads w B 1 Q m (ints ts)) (hr : RunsR w B RA rn rs) (hB : B ≤ w.heap.size) (hok : okRuns ts rs = true) :
  Calls Tryz.prog 152 #[.slice Q m d, .slice RA rn rc, .int .i64 tube] w fun e w' => ∃ A' q d' l', e = .returned (.slice A' q d') ∧ Reads w' w'.heap.size 3 A' q (sps l') ∧ q ≤ 1048576 ∧ (∀ x, x ∈ l' ↔ x ∈ inTube ts rs tube) ∧ Below w.heap.size w w' := by
 have HOK := Lib.hid hok
 have HRT := Lib.hid ht
 have HRR := Lib.hid hr
 have HRL := Lib.hid hr.len
 have hr12 : rn ≤ 12 := by rw [← hr.len]; exact okRuns_len hok
 have HTK := Lib.hid (taken_len2 hok)
 have HS0 := Lib.hid ((Acc.made w 196 3).sl (lo := w.heap.size) (Nat.le_refl _) (Nat.le_refl _))
 have HB0 := Lib.hid ((Below.refl w.heap.size w).alloc (Nat.le_refl _) (.cells #[] 196))
 obtain ⟨p, hp⟩ : ∃ p : Sp → Bool, p = fun s => s.tube == tube := ⟨_, rfl⟩
 have HP := Lib.hid (show ∀ s : Sp, p s = (s.tube == tube) by intro s; rw [hp])
 have HIN := Lib.hid (show inTube ts rs tube = (taken ts rs).filter p by rw [hp]; rfl)
 clear ht hr hok hp
 go_enter Tryz.func152, Tryz.ntmps152
 go_wp2_with fail
 go_loopw [7, 15] (fun o i wr => ∃ (k : Nat) (A' : Option Addr) (q d' : Nat), k ≤ rn ∧ i = .int .i64 (k : Int) ∧ o = .slice A' q d' ∧ (∃ g, A' = some ⟨g, 0, none⟩ ∧ w.heap.size ≤ g ∧ g < wr.heap.size) ∧ q ≤ 12 * k ∧ Sl wr w.heap.size wr.heap.size 196 3 A' q d' (sps ((taken ts (rs.take k)).filter p)) ∧ Below w.heap.size w wr) (fun _ i _ => rn - (RowKit.intOf i).toNat)
 case atStart => exact ⟨0, _, _, _, Nat.zero_le _, rfl, rfl, ⟨_, rfl, Nat.le_refl _, by simp⟩, by omega, HS0.out, HB0.out⟩
 case round =>
  obtain ⟨k, A', q, d', hk, rfl, rfl, hg, hq, hsl, hbel⟩ := hrel
  have HA := Lib.hid hsl
  have HG := Lib.hid hg
  have HBr := Lib.hid hbel
  clear hsl hbel hg
  have hk0 : (0 : Int) ≤ k := by omega
  by_cases hlt : k < rn
  ·obtain ⟨r, b, off, A2, m2, c2, he, rfl, hb, c0, c1, hrr, hm2⟩ := run_at (HRR.out.on hB HBr.out) hlt
   obtain ⟨hwo, hs0, hs1⟩ := okRuns_at HOK.out he
   have hwl := okWay_mem hwo
   have HWO := Lib.hid hwo
   have HSN := Lib.hid (taken_snoc (ts := ts) he)
   have hkn : (k : Int) < rn := by omega
   obtain ⟨st, hst⟩ : ∃ z, r.st = z := ⟨_, rfl⟩
   have HST := Lib.hid hst
   rw [hst] at c1 hs0 hs1
   have HRW := Lib.hid hrr
   have hml := ints_len hrr
   have hwl1 := hwl.1
   have hwl2 := hwl.2.1
   clear he hst hwo hrr hwl
   go_upto_region 5 with fail
   obtain ⟨u, hu⟩ : ∃ y, wr.alloc (.cells #[.slice A2 m2 c2, .int .i64 st] 123) = y := ⟨_, rfl⟩
   have yu : Blk u wr.heap.size 123 #[.slice A2 m2 c2, .int .i64 st] := by rw [← hu]; exact Blk.new _ _ _
   have bu : Below wr.heap.size wr u := by rw [← hu]; exact (Below.refl _ _).alloc (Nat.le_refl _) _
   rw [hu]
   have p0 := yu.cellAt 0 (by simp)
   have p1 := yu.cellAt 1 (by simp)
   simp only [List.getElem_toArray, List.getElem_cons_zero, List.getElem_cons_succ] at p0 p1
   have HAu := Lib.hid (HA.out.on bu)
   have HGu := Lib.hid (show ∃ g, A' = some ⟨g, 0, none⟩ ∧ w.heap.size ≤ g ∧ g < u.heap.size by obtain ⟨g, h1, h2, h3⟩ := HG.out; exact ⟨g, h1, h2, Nat.lt_of_lt_of_le h3 bu.size⟩)
   have HBu := Lib.hid (bnext HBr.out bu (Nat.le_refl _))
   have HRu := Lib.hid (HRW.out.on (Nat.le_trans hB HBr.out.size) bu)
   clear hu yu bu c0 c1
   go_wp2_with fail
   refine (spansOf_any Q m d ts A2 m2 c2 B r.way st u (HRT.out.on hB HBu.out) HRu.out (Nat.le_trans hB HBu.out.size) (okRuns_times HOK.out) HWO.out hs0 (by omega)).mono ?_
   rintro e w5 ⟨A5, q5, d5, rfl, s5, b5⟩
   have hq5 : q5 = r.way.length := by have := s5.len; rw [sps_length, spans_length] at this; omega
   obtain ⟨g5, rfl, hg5, hg6, _⟩ := s5.lt (by omega)
   have R5 := Lib.hid (s5.reads (Nat.le_refl _))
   have HA5 := Lib.hid ((HAu.out.on b5).low)
   have HB5 := Lib.hid (bnext HBu.out b5 (Nat.le_refl _))
   have HG5 := Lib.hid (show ∃ g, A' = some ⟨g, 0, none⟩ ∧ w.heap.size ≤ g ∧ g < w5.heap.size ∧ g ≠ g5 by obtain ⟨g, h1, h2, h3⟩ := HGu.out; exact ⟨g, h1, h2, Nat.lt_of_lt_of_le h3 b5.size, by omega⟩)
   have HG7 := Lib.hid hg6
   have hq12 : q5 ≤ 12 := by omega
   have HS0' := Lib.hid (show (spans ts r.way st).length = q5 by rw [spans_length]; exact hq5.symm)
   obtain ⟨sl, hsl⟩ : ∃ z, spans ts r.way st = z := ⟨_, rfl⟩
   rw [hsl] at R5 HS0'
   obtain ⟨pre, hpre⟩ : ∃ z, (taken ts (rs.take k)).filter p = z := ⟨_, rfl⟩
   rw [hpre] at HA5
   have HNX := Lib.hid (show (taken ts (rs.take (k + 1))).filter p = pre ++ sl.filter p by rw [HSN.out, List.filter_append, hpre, HST.out, hsl])
   clear b5 s5 p0 p1 hq5 hml hg5 hg6 hsl hpre
   go_wp2_with fail
   go_loopw [7, 23] (fun o i wx => ∃ (j : Nat) (A2 : Option Addr) (q2 d2 : Nat), j ≤ q5 ∧ i = .int .i64 (j : Int) ∧ o = .slice A2 q2 d2 ∧ (∃ g, A2 = some ⟨g, 0, none⟩ ∧ w.heap.size ≤ g ∧ g < wx.heap.size ∧ g ≠ g5) ∧ q2 ≤ 12 * k + j ∧ Sl wx w.heap.size wx.heap.size 196 3 A2 q2 d2 (sps (pre ++ (sl.take j).filter p)) ∧ Reads wx wx.heap.size 3 (some ⟨g5, 0, none⟩) q5 (sps sl) ∧ g5 < wx.heap.size ∧ Below w.heap.size w wx) (fun _ i _ => q5 - (RowKit.intOf i).toNat)
   case atStart => exact ⟨0, _, _, _, Nat.zero_le _, rfl, rfl, HG5.out, by omega, by rw [List.take_zero, List.filter_nil, List.append_nil]; exact HA5.out, R5.out, HG7.out, HB5.out⟩
   case round =>
    rename World => wx
    obtain ⟨j, A2, q2, d2, hj, rfl, rfl, hg, hq2, hsl, hrd, hg5, hbel⟩ := hrel
    have HA2 := Lib.hid hsl
    have HG2 := Lib.hid hg
    have HR2 := Lib.hid hrd
    have HBx := Lib.hid hbel
    have HG8 := Lib.hid hg5
    clear hsl hg hrd hbel hg5
    have hj0 : (0 : Int) ≤ j := by omega
    by_cases hjt : j < q5
    ·obtain ⟨s, b, off, he, hA, hb, c0, c1, c2⟩ := sp_at HR2.out hjt
     injection hA with hA
     injection hA with hA1 hA2
     subst hA1
     subst hA2
     rw [Nat.zero_add] at c0 c1 c2
     have HFS := Lib.hid (filter_take_snoc (p := p) he)
     have hjq : (j : Int) < q5 := by omega
     clear he
     go_upto_region 8 with fail
     obtain ⟨v, hv⟩ : ∃ y, wx.alloc (.cells #[.int .i64 s.tube, .int .i64 s.enter, .int .i64 s.leave] 196) = y := ⟨_, rfl⟩
     have yv : Blk v wx.heap.size 196 #[.int .i64 s.tube, .int .i64 s.enter, .int .i64 s.leave] := by rw [← hv]; exact Blk.new _ _ _
     have bv : Below wx.heap.size wx v := by rw [← hv]; exact (Below.refl _ _).alloc (Nat.le_refl _) _
     rw [hv]
     have p0 := yv.cellAt 0 (by simp)
     have p1 := yv.cellAt 1 (by simp)
     have p2 := yv.cellAt 2 (by simp)
     simp only [List.getElem_toArray, List.getElem_cons_zero, List.getElem_cons_succ] at p0 p1 p2
     have HAv := Lib.hid ((HA2.out.on bv).low)
     have HRv := Lib.hid ((HR2.out.on (Nat.le_refl _) bv).more bv.size)
     have HBv := Lib.hid (bnext HBx.out bv (Nat.le_refl _))
     have HGv := Lib.hid (show ∃ g, A2 = some ⟨g, 0, none⟩ ∧ w.heap.size ≤ g ∧ g < v.heap.size ∧ g ≠ g5 by obtain ⟨g, h1, h2, h3, h4⟩ := HG2.out; exact ⟨g, h1, h2, Nat.lt_of_lt_of_le h3 bv.size, h4⟩)
     have HG9 := Lib.hid (Nat.lt_of_lt_of_le HG8.out bv.size)
     clear hv yv bv c0 c1 c2
     rcases hps : (s.tube == tube) with _ | _
     ·have HF2 := Lib.hid (show (sl.take (j + 1)).filter p = (sl.take j).filter p by rw [HFS.out, HP.out, hps]; simp)
      go_wp2
      go_roundw
      case rel => exact ⟨j + 1, A2, q2, d2, by omega, by go_num, rfl, HGv.out, by omega, by rw [HF2.out]; exact HAv.out, HRv.out, HG9.out, HBv.out⟩
      case measure => simp [RowKit.intOf]; omega
     ·have HF2 := Lib.hid (show (sl.take (j + 1)).filter p = (sl.take j).filter p ++ [s] by rw [HFS.out, HP.out, hps]; simp)
      have hz : w.heap.size ≤ v.heap.size := HBv.out.size
      go_wp2_with (at_builtin; refine wpList_oneF rfl _ _ 194 rfl 196 _ 3 24 Tryz.underlying194 info_sp9 rfl (by decide) (by decide) HAv.out hz rfl (cellsSp s) v.heap.size rfl rfl rfl (sp_one _) (by omega) ?_; intro A3 d3 w9 hs9 b9 z9 f9 k9; have HS9 := Lib.hid hs9; have HB9 := Lib.hid b9; have HF9 := Lib.hid f9; have HK9 := Lib.hid k9; have HZ9 := Lib.hid z9; clear hs9 b9 z9 f9 k9)
      go_roundw
      case rel =>
       have hne : ∀ ad, A2 = some ad → ad.block ≠ g5 := by
        obtain ⟨g, h1, h2, h3, h4⟩ := HGv.out
        intro ad had
        rw [h1] at had
        injection had with had
        rw [← had]
        exact h4
       refine ⟨j + 1, A3, q2 + 1, d3, by omega, by go_num, rfl, ?_, by omega, ?_, ?_, ?_, HBv.out.trans HB9.out⟩
       ·obtain ⟨g, h1, h2, h3, _⟩ := HS9.out.lt (by omega)
        exact ⟨g, h1, h2, h3, HK9.out g5 HG9.out hne _ h1⟩
       ·rw [HF2.out, ← List.append_assoc, ← sps_snoc]; exact HS9.out
       ·have h1 := HRv.out
        refine ⟨h1.1, fun hn => ?_⟩
        obtain ⟨ad, e1, e2, e3, e4⟩ := h1.2 hn
        refine ⟨ad, e1, e2, by have := HZ9.out; omega, fun i x hx => ?_⟩
        have hb := HF9.out g5 HG9.out hne
        injection e1 with e1
        rw [← e1] at e4 ⊢
        rw [World.cell?_of_block hb]
        exact e4 i x hx
       ·have := HG9.out; have := HZ9.out; omega
      case measure => simp [RowKit.intOf]; omega
    ·obtain rfl : q5 = j := by omega
     have HF2 := Lib.hid (show (sl.take q5).filter p = sl.filter p by rw [← HS0'.out, List.take_length])
     go_wp2
     go_roundw
     case rel => exact ⟨k + 1, A2, q2, d2, by omega, by go_num, rfl, by obtain ⟨g, h1, h2, h3, _⟩ := HG2.out; exact ⟨g, h1, h2, h3⟩, by omega, by rw [HNX.out, ← HF2.out]; exact HA2.out, HBx.out⟩
     case measure => simp [RowKit.intOf]; omega
  ·obtain rfl : rn = k := by omega
   have hta : taken ts (rs.take rn) = taken ts rs := by rw [← HRL.out, List.take_length]
   obtain ⟨g, rfl, hg1, hg2⟩ := HG.out
   have HG1 := Lib.hid hg1
   have HG2 := Lib.hid hg2
   have hq9 : q ≤ 1048576 := by omega
   have HI := Lib.hid (show (taken ts (rs.take rn)).filter p = inTube ts rs tube by rw [hta, HIN.out])
   clear hg1 hg2 hta
   go_wp2_with fail
   refine (sortSp_any g q d' w.heap.size _ wr HA.out HBr.out.size HG1.out HG2.out hq9).mono ?_
   rintro e w6 ⟨rfl, l', r6, m6, b6⟩
   have HR6 := Lib.hid r6
   have HM6 := Lib.hid m6
   have HB6 := Lib.hid (HBr.out.trans b6)
   clear r6 m6 b6
   go_wp2
   go_ret
   exact ⟨_, _, _, l', rfl, HR6.out, hq9, fun x => by rw [HM6.out x, HI.out], HB6.out⟩
theorem free1_any (s : Sp) (g1 g2 : Nat) (f t : Int) (w : World) (h1 : w.cell? ⟨g1, 0, none⟩ = some (.int .i64 f)) (h2 : w.cell? ⟨g2, 0, none⟩ = some (.int .i64 t)) :
  Calls Tryz.prog 153 #[.agg #[.int .i64 s.tube, .int .i64 s.enter, .int .i64 s.leave], .pointer (some ⟨g1, 0, none⟩), .pointer (some ⟨g2, 0, none⟩)] w fun e w' => e = .returned (.bool (decide (max s.enter f < min s.leave t))) ∧ Below w.heap.size w w' := by
 obtain ⟨W, hW, y0, hb⟩ : ∃ W, W = w.alloc (.cells #[.int .i64 s.tube, .int .i64 s.enter, .int .i64 s.leave] 196) ∧ Blk W w.heap.size 196 #[.int .i64 s.tube, .int .i64 s.enter, .int .i64 s.leave] ∧ Below w.heap.size w W := ⟨_, rfl, Blk.new _ _ _, (Below.refl _ _).alloc (Nat.le_refl _) _⟩
 have HW := Lib.hid hW
 have HB := Lib.hid hb
 replace h1 := cell_on hb h1
 replace h2 := cell_on hb h2
 have c1 := y0.cellAt 1 (by simp)
 have c2 := y0.cellAt 2 (by simp)
 simp only [List.getElem_toArray, List.getElem_cons_zero, List.getElem_cons_succ] at c1 c2
 clear hW hb y0
 go_enter Tryz.func153, Tryz.ntmps153
 go_upto_region 1 with fail
 rw [← HW.out]
 go_wp2
 go_ret
 exact ⟨rfl, HB.out⟩
theorem indexFuncSp_any (A : Option Addr) (n c g1 g2 : Nat) (f t : Int) (l : List Sp) (w : World) (h : Reads w w.heap.size 3 A n (sps l)) (hn : n ≤ 1048576) (h1 : w.cell? ⟨g1, 0, none⟩ = some (.int .i64 f)) (h2 : w.cell? ⟨g2, 0, none⟩ = some (.int .i64 t)) :
  Calls Tryz.prog 208 #[.slice A n c, .func (.func 153) #[] #[.pointer (some ⟨g1, 0, none⟩), .pointer (some ⟨g2, 0, none⟩)]] w fun e w' => e = .returned (.int .i64 (idxI (fun x => decide (max x.enter f < min x.leave t)) l)) ∧ Below w.heap.size w w' := by
 have hl := Lib.hid (sps_len h)
 have HC1 := Lib.hid h1
 have HC2 := Lib.hid h2
 clear h1 h2
 go_enter Tryz.func208, Tryz.ntmps208
 go_wp2
 go_loopw [8] (fun i wr => ∃ k : Nat, k ≤ n ∧ i = .int .i64 k ∧ AllTo (fun x => !decide (max x.enter f < min x.leave t)) l k ∧ Below w.heap.size w wr) (fun i _ => n - (RowKit.intOf i).toNat)
 case atStart => exact ⟨0, Nat.zero_le _, rfl, AllTo.zero _ _, Below.refl _ _⟩
 case round =>
  obtain ⟨k, hk, rfl, hall, hbel⟩ := hrel
  have HA := Lib.hid hall
  have HB := Lib.hid hbel
  clear hall
  by_cases hlt : k < n
  ·obtain ⟨x, b, off, he, rfl, hb, c0, c1, c2⟩ := sp_at (h.on (Nat.le_refl _) hbel) hlt
   have HE := Lib.hid he
   clear he hbel h
   go_wp2_with fail
   refine (free1_any x g1 g2 f t _ (cell_on HB.out HC1.out) (cell_on HB.out HC2.out)).mono ?_
   rintro e w1 ⟨rfl, b1⟩
   have HF := Lib.hid (bnext HB.out b1 (Nat.le_refl _))
   clear b1 c0 c1 c2
   rcases ho : decide (max x.enter f < min x.leave t) with _ | _
   ·have HO := Lib.hid ho
    go_wp2
    go_roundw
    case rel => exact ⟨k + 1, by omega, by go_num, HA.out.step HE.out (by rw [HO.out]; rfl), HF.out⟩
    case measure => simp [RowKit.intOf]; omega
   ·have HO := Lib.hid (show idxI (fun x => decide (max x.enter f < min x.leave t)) l = k from idxI_found HE.out ho (HA.out.imp fun x hx => by simpa using hx))
    go_wp2
    go_ret
    exact ⟨ret_int HO.out.symm, HF.out⟩
  ·obtain rfl : k = n := by omega
   have HO := Lib.hid (show idxI (fun x => decide (max x.enter f < min x.leave t)) l = -1 from idxI_none (HA.out.imp fun x hx => by simpa using hx) hl.out)
   go_wp2
   go_ret
   exact ⟨ret_int HO.out.symm, HB.out⟩
theorem containsFuncSp_any (A : Option Addr) (n c g1 g2 : Nat) (f t : Int) (l : List Sp) (w : World) (h : Reads w w.heap.size 3 A n (sps l)) (hn : n ≤ 1048576) (h1 : w.cell? ⟨g1, 0, none⟩ = some (.int .i64 f)) (h2 : w.cell? ⟨g2, 0, none⟩ = some (.int .i64 t)) :
  Calls Tryz.prog 151 #[.slice A n c, .func (.func 153) #[] #[.pointer (some ⟨g1, 0, none⟩), .pointer (some ⟨g2, 0, none⟩)]] w fun e w' => e = .returned (.bool (l.any fun x => decide (max x.enter f < min x.leave t))) ∧ Below w.heap.size w w' := by
 have HO := Lib.hid (show decide (0 ≤ idxI (fun x : Sp => decide (max x.enter f < min x.leave t)) l) = l.any (fun x => decide (max x.enter f < min x.leave t)) from by rw [idxI_nonneg])
 have HC := Lib.hid (indexFuncSp_any A n c g1 g2 f t l w h hn h1 h2)
 clear h h1 h2
 go_enter Tryz.func151, Tryz.ntmps151
 go_wp2_with fail
 refine HC.out.mono ?_
 rintro e w1 ⟨rfl, b1⟩
 go_wp2
 go_ret
 exact ⟨ret_bool HO.out, b1⟩
def runsC (ts : List Int) (rs : List Rn) (tube : Int) : Int := if okRuns ts rs = false then 1 else if inR tube 0 ((ts.length : Int) - 1) = false then 2 else 0
theorem runsCode_any (Q : Option Addr) (m d : Nat) (ts : List Int) (RA : Option Addr) (rn rc : Nat) (rs : List Rn) (B : Nat) (tube : Int) (w : World) (ht : Reads w B 1 Q m (ints ts)) (hr : RunsR w B RA rn rs) (hB : B ≤ w.heap.size) (hm : m ≤ 1048576) (hrn : rn ≤ 1048576) (hsm : SmallR rs) :
  Calls Tryz.prog 150 #[.slice Q m d, .slice RA rn rc, .int .i64 tube] w fun e w' => e = .returned (.int .i64 (runsC ts rs tube)) ∧ Below w.heap.size w w' := by
 have HRT := Lib.hid ht
 have HRR := Lib.hid hr
 have hts := ints_len ht
 have HTS := Lib.hid hts
 have HSM := Lib.hid hsm
 have hwr : IntKind.i64.wrap ((m : Int) - 1) = (m : Int) - 1 := by
  unfold IntKind.wrap; simp [IntKind.bits, IntKind.signed]; omega
 clear ht hr hsm hts
 go_enter Tryz.func150, Tryz.ntmps150
 go_wp2_with fail
 refine (implValidRuns_any Q m d ts RA rn rc B rs w HRT.out HRR.out hB hm hrn HSM.out).mono ?_
 rintro e w1 ⟨rfl, b1⟩
 have HB1 := Lib.hid b1
 clear b1
 rcases e1 : okRuns ts rs with _ | _
 ·have HO := Lib.hid (show runsC ts rs tube = 1 by unfold runsC; rw [if_pos e1])
  go_wp2
  go_ret
  exact ⟨ret_int HO.out.symm, HB1.out⟩
 have H1 := Lib.hid e1
 clear e1
 go_wp2_with fail
 refine (within_any _ _ _ _).mono ?_
 rintro e w3 ⟨rfl, rfl⟩
 have HL := Lib.hid (show ((m : Int) - 1) = (ts.length : Int) - 1 by rw [HTS.out])
 rcases e2 : inR tube 0 ((m : Int) - 1) with _ | _
 ·have HO := Lib.hid (show runsC ts rs tube = 2 by unfold runsC; rw [if_neg (by rw [H1.out]; decide), if_pos (by rw [← HL.out]; exact e2)])
  go_wp2
  go_ret
  exact ⟨ret_int HO.out.symm, HB1.out⟩
 ·have HO := Lib.hid (show runsC ts rs tube = 0 by unfold runsC; rw [if_neg (by rw [H1.out]; decide), if_neg (by rw [← HL.out, e2]; decide)])
  go_wp2
  go_ret
  exact ⟨ret_int HO.out.symm, HB1.out⟩
theorem freeF_1 {ts : List Int} {rs : List Rn} {tube f t : Int} (h : runsC ts rs tube ≠ 0) : freeF ts rs tube f t = (false, runsC ts rs tube) := by
 unfold runsC at h ⊢
 unfold freeF
 by_cases h1 : okRuns ts rs = false
 ·rw [if_pos h1, if_pos h1]
 ·rw [if_neg h1] at h ⊢
  rw [if_neg h1]
  by_cases h2 : inR tube 0 ((ts.length : Int) - 1) = false
  ·rw [if_pos h2, if_pos h2]
  ·rw [if_neg h2] at h; exact absurd rfl h
theorem runsC_ok {ts : List Int} {rs : List Rn} {tube : Int} (h : runsC ts rs tube = 0) : okRuns ts rs = true ∧ inR tube 0 ((ts.length : Int) - 1) = true := by
 unfold runsC at h
 by_cases h1 : okRuns ts rs = false
 ·rw [if_pos h1] at h; cases h
 ·rw [if_neg h1] at h
  by_cases h2 : inR tube 0 ((ts.length : Int) - 1) = false
  ·rw [if_pos h2] at h; cases h
  ·exact ⟨by simpa using h1, by simpa using h2⟩
theorem freeF_2 {ts : List Int} {rs : List Rn} {tube f t : Int} (h : runsC ts rs tube = 0) (h2 : (inR f 0 100000 && inR t f 200000) = false) : freeF ts rs tube f t = (false, 2) := by
 obtain ⟨h3, h4⟩ := runsC_ok h
 unfold freeF
 rw [if_neg (by rw [h3]; decide), if_neg (by rw [h4]; decide), if_pos h2]
theorem freeF_3 {ts : List Int} {rs : List Rn} {tube f t : Int} (h : runsC ts rs tube = 0) (h2 : (inR f 0 100000 && inR t f 200000) = true) : freeF ts rs tube f t = (!(inTube ts rs tube).any (fun s => decide (max s.enter f < min s.leave t)), 0) := by
 obtain ⟨h3, h4⟩ := runsC_ok h
 unfold freeF
 rw [if_neg (by rw [h3]; decide), if_neg (by rw [h4]; decide), if_neg (by rw [h2]; decide)]
set_option maxHeartbeats 4000000 in
theorem implFree_any (Q : Option Addr) (m d : Nat) (ts : List Int) (RA : Option Addr) (rn rc : Nat) (rs : List Rn) (B : Nat) (tube f t : Int) (w : World) (ht : Reads w B 1 Q m (ints ts)) (hr : RunsR w B RA rn rs) (hB : B ≤ w.heap.size) (hm : m ≤ 1048576) (hrn : rn ≤ 1048576) (hsm : SmallR rs) :
  Calls Tryz.prog 87 #[.slice Q m d, .slice RA rn rc, .int .i64 tube, .int .i64 f, .int .i64 t] w fun e w' => e = .returned (.tuple #[.bool (freeF ts rs tube f t).1, .int .i64 (freeF ts rs tube f t).2]) ∧ Below w.heap.size w w' := by
 have HRT := Lib.hid ht
 have HRR := Lib.hid hr
 have HSM := Lib.hid hsm
 obtain ⟨W, hW, hz, k0, k1, hb⟩ := two_al w #[.int .i64 f] #[.int .i64 t] 2 2
 have HW := Lib.hid hW
 have HB := Lib.hid hb
 have a0 := k0.cellAt 0 (by simp)
 have d0 := k1.cellAt 0 (by simp)
 simp only [List.getElem_toArray, List.getElem_cons_zero, List.getElem_cons_succ] at a0 d0
 clear hW hz k0 k1 hb ht hr hsm
 go_enter Tryz.func87, Tryz.ntmps87
 go_upto_region 1 with fail
 rw [← HW.out]
 go_wp2_with fail
 refine (runsCode_any Q m d ts RA rn rc rs B tube W (HRT.out.on hB HB.out) (HRR.out.on hB HB.out) (Nat.le_trans hB HB.out.size) hm hrn HSM.out).mono ?_
 rintro e w1 ⟨rfl, b1⟩
 have HB1 := Lib.hid (bnext HB.out b1 (Nat.le_refl _))
 replace a0 := cell_on b1 a0
 replace d0 := cell_on b1 d0
 clear b1
 by_cases hc : runsC ts rs tube = 0
 rotate_left
 ·have HO := Lib.hid (freeF_1 (f := f) (t := t) hc)
  obtain ⟨C, hC⟩ : ∃ z, runsC ts rs tube = z := ⟨_, rfl⟩
  rw [hC] at hc HO
  rw [hC]
  have hcc : (C == 0) = false := by simpa using hc
  have hcd : (C != 0) = true := by simpa using hc
  clear hC hc
  go_wp2
  go_ret2
  exact ⟨by rw [HO.out]; rfl, HB1.out⟩
 have HC := Lib.hid hc
 rw [hc]
 clear hc
 go_wp2_with fail
 refine (within_any _ _ _ _).mono ?_
 rintro e w3 ⟨rfl, rfl⟩
 rcases e3 : inR f 0 100000 with _ | _
 ·have HO := Lib.hid (freeF_2 (f := f) (t := t) HC.out (by rw [e3]; rfl))
  go_wp2
  go_ret2
  exact ⟨by rw [HO.out]; rfl, HB1.out⟩
 have H3 := Lib.hid e3
 clear e3
 go_wp2_with fail
 refine (within_any _ _ _ _).mono ?_
 rintro e w4 ⟨rfl, rfl⟩
 rcases e4 : inR t f 200000 with _ | _
 ·have HO := Lib.hid (freeF_2 (f := f) (t := t) HC.out (by rw [H3.out, e4]; rfl))
  go_wp2
  go_ret2
  exact ⟨by rw [HO.out]; rfl, HB1.out⟩
 have HO := Lib.hid (freeF_3 (f := f) (t := t) HC.out (by rw [H3.out, e4]; rfl))
 clear e4
 go_wp2_with fail
 refine (spansIn_any Q m d ts RA rn rc rs B tube w1 (HRT.out.on hB HB1.out) (HRR.out.on hB HB1.out) (Nat.le_trans hB HB1.out.size) (runsC_ok HC.out).1).mono ?_
 rintro e w5 ⟨A5, q5, d5, l5, rfl, r5, hq5, m5, b5⟩
 have HB5 := Lib.hid (bnext HB1.out b5 (Nat.le_refl _))
 have HR5 := Lib.hid r5
 have HM5 := Lib.hid m5
 replace a0 := cell_on b5 a0
 replace d0 := cell_on b5 d0
 have HA0 := Lib.hid a0
 have HD0 := Lib.hid d0
 clear b5 r5 m5
 go_wp2_with fail
 refine (containsFuncSp_any A5 q5 d5 w.heap.size (w.heap.size + 1) f t l5 w5 HR5.out hq5 HA0.out HD0.out).mono ?_
 rintro e w6 ⟨rfl, b6⟩
 have HB6 := Lib.hid (bnext HB5.out b6 (Nat.le_refl _))
 have HAN := Lib.hid (show (l5.any fun x => decide (max x.enter f < min x.leave t)) = (inTube ts rs tube).any (fun s => decide (max s.enter f < min s.leave t)) by
  rw [Bool.eq_iff_iff, List.any_eq_true, List.any_eq_true]
  exact ⟨fun ⟨x, h1, h2⟩ => ⟨x, (HM5.out x).1 h1, h2⟩, fun ⟨x, h1, h2⟩ => ⟨x, (HM5.out x).2 h1, h2⟩⟩)
 clear b6 a0 d0
 obtain ⟨Z, hZ⟩ : ∃ z, (l5.any fun x => decide (max x.enter f < min x.leave t)) = z := ⟨_, rfl⟩
 rw [hZ] at HAN ⊢
 clear hZ
 go_wp2
 go_ret2
 exact ⟨by rw [HO.out, ← HAN.out]; rfl, HB6.out⟩
end Go.Proofs.YtjalgpioklcbfaaGreatDoor
