/- The earliest start of a run, as the program finds it. -/
import Derived.Test.YtjalgpioklcbfaaGreatDoorMgConsoleAL
set_option linter.unusedVariables false
set_option linter.unusedSimpArgs false
namespace Go.Proofs.YtjalgpioklcbfaaGreatDoor
open Go.RowKit Go.Lib

theorem taken_app (ts : List Int) : ∀ (l m : List Rn), taken ts (l ++ m) = taken ts l ++ taken ts m
  | [], m => rfl
  | r :: l, m => by rw [List.cons_append, taken, taken, taken_app ts l m, List.append_assoc]
theorem taken_snoc {ts : List Int} {rs : List Rn} {k : Nat} {r : Rn} (h : rs[k]? = some r) : taken ts (rs.take (k + 1)) = taken ts (rs.take k) ++ spans ts r.way r.st := by
  rw [List.take_add_one, h, Option.toList_some, taken_app, taken, taken, List.append_nil]
theorem okRuns_at {ts : List Int} {rs : List Rn} (h : okRuns ts rs = true) {k : Nat} {r : Rn} (hr : rs[k]? = some r) : okWay ts r.way = true ∧ 0 ≤ r.st ∧ r.st ≤ 100000 := by
  unfold okRuns at h
  simp only [Bool.and_eq_true, List.all_eq_true] at h
  have hk := h.2.2 r (List.mem_of_getElem? hr)
  unfold okRun at hk
  rw [Bool.and_eq_true] at hk
  exact ⟨hk.1, (inR_true.1 hk.2).1, (inR_true.1 hk.2).2⟩
theorem okRuns_len {ts : List Int} {rs : List Rn} (h : okRuns ts rs = true) : rs.length ≤ 12 := by
  unfold okRuns at h
  simp only [Bool.and_eq_true, decide_eq_true_eq] at h
  exact h.2.1
theorem taken_len {ts : List Int} {rs : List Rn} (h : ∀ r ∈ rs, r.way.length ≤ 12) : (taken ts rs).length ≤ 12 * rs.length := by
  induction rs with
  | nil => simp [taken]
  | cons r rs ih =>
    have h1 := h r (by simp)
    have h2 := ih fun x hx => h x (List.mem_cons_of_mem _ hx)
    rw [taken, List.length_append, spans_length, List.length_cons]
    omega
theorem earl_bd {ts : List Int} {rs : List Rn} {way : List Int} (h : okRuns ts rs = true) (hw : okWay ts way = true) {a : Int} (ha : a ≤ 100000) : earl ts rs way a ≤ 112000 := by
  obtain ⟨e1, e2, e3⟩ := earl_is h hw a
  rcases hf : fits ts rs way 112000 with _ | _
  · obtain ⟨s, hs, o, ho, hm⟩ := fits_not hf
    have := meet_bd h hw hs ho hm
    omega
  · by_cases hlt : 112000 < earl ts rs way a
    · have := e3 112000 (by omega) hlt
      rw [hf] at this; cases this
    · omega
set_option maxHeartbeats 1000000 in
set_option maxRecDepth 100000 in
theorem earliest_any (Q : Option Addr) (m d : Nat) (ts : List Int) (RA : Option Addr) (rn rc : Nat) (rs : List Rn) (A : Option Addr) (n c B : Nat) (way : List Int) (a0 : Int) (w : World) (ht : Reads w B 1 Q m (ints ts)) (hr : RunsR w B RA rn rs) (h : Reads w B 1 A n (ints way)) (hB : B ≤ w.heap.size) (hok : okRuns ts rs = true) (hw : okWay ts way = true) (h0 : 0 ≤ a0) (h1 : a0 ≤ 100000) :
    Calls Tryz.prog 148 #[.slice Q m d, .slice RA rn rc, .slice A n c, .int .i64 a0] w fun e w' => e = .returned (.int .i64 (earl ts rs way a0)) ∧ Below w.heap.size w w' := by
  have HOK := Lib.hid hok
  have HWY := Lib.hid hw
  have HRT := Lib.hid ht
  have HRR := Lib.hid hr
  have HR := Lib.hid h
  have HRL := Lib.hid hr.len
  have hr12 : rn ≤ 12 := by rw [← hr.len]; exact okRuns_len hok
  have HTK := Lib.hid (taken_len (ts := ts) (rs := rs) (fun r hr => by
    obtain ⟨k, hk, he⟩ := List.getElem_of_mem hr
    exact (okWay_mem (okRuns_at hok (by rw [List.getElem?_eq_getElem hk, he])).1).1))
  have acc0 := Acc.made w 196 3
  clear ht hr h hok hw
  go_enter Tryz.func148, Tryz.ntmps148
  go_wp2_with fail
  go_loopw [9, 20] (fun o i wr => ∃ (k : Nat) (A' : Option Addr) (q d' : Nat), k ≤ rn ∧ i = .int .i64 (k : Int) ∧ o = .slice A' q d' ∧ Acc w.heap.size w.heap.size 196 3 w wr A' q d' (sps (taken ts (rs.take k)))) (fun _ i _ => rn - (RowKit.intOf i).toNat)
  case atStart => exact ⟨0, _, _, _, Nat.zero_le _, rfl, rfl, acc0⟩
  case round =>
    obtain ⟨k, A', q, d', hk, rfl, rfl, hacc⟩ := hrel
    have HA := Lib.hid hacc
    have HBr := Lib.hid (hacc.below (B := w.heap.size) (Nat.le_refl _) (Nat.le_refl _))
    clear acc0 hacc
    have hk0 : (0 : Int) ≤ k := by omega
    by_cases hlt : k < rn
    · obtain ⟨r, b, off, A2, m2, c2, he, rfl, hb, c0, c1, hrr, hm2⟩ := run_at (HRR.out.on hB HBr.out) hlt
      obtain ⟨hwo, hs0, hs1⟩ := okRuns_at HOK.out he
      have hwl := okWay_mem hwo
      have HWO := Lib.hid hwo
      have HSN := Lib.hid (taken_snoc (ts := ts) he)
      have hql : q ≤ 144 := by
        have h1 := HA.out.len
        have h2 := taken_len (ts := ts) (rs := rs.take k) (fun r hr => by
          have hr := List.mem_of_mem_take hr
          obtain ⟨k, hk, he⟩ := List.getElem_of_mem hr
          exact (okWay_mem (okRuns_at HOK.out (by rw [List.getElem?_eq_getElem hk, he])).1).1)
        rw [sps_length] at h1
        rw [List.length_take] at h2
        have := HRL.out
        have h3 : min k rs.length ≤ k := Nat.min_le_left _ _
        omega
      have hkn : (k : Int) < rn := by omega
      obtain ⟨st, hst⟩ : ∃ z, r.st = z := ⟨_, rfl⟩
      have HST := Lib.hid hst
      rw [hst] at c1 hs0 hs1
      have HRW := Lib.hid hrr
      have hml := ints_len hrr
      have hwl1 := hwl.1
      have hwl2 := hwl.2.1
      clear he hst hwo hrr hwl
      go_upto_region 5 with fail
      obtain ⟨u, hu⟩ : ∃ y, wr.alloc (.cells #[.slice A2 m2 c2, .int .i64 st] 123) = y := ⟨_, rfl⟩
      have yu : Blk u wr.heap.size 123 #[.slice A2 m2 c2, .int .i64 st] := by rw [← hu]; exact Blk.new _ _ _
      have bu : Below wr.heap.size wr u := by rw [← hu]; exact (Below.refl _ _).alloc (Nat.le_refl _) _
      rw [hu]
      have p0 := yu.cellAt 0 (by simp)
      have p1 := yu.cellAt 1 (by simp)
      simp only [List.getElem_toArray, List.getElem_cons_zero, List.getElem_cons_succ] at p0 p1
      have HAu := Lib.hid (HA.out.on bu (Nat.le_refl _))
      have HBu := Lib.hid (bnext HBr.out bu (Nat.le_refl _))
      have HRu := Lib.hid (HRW.out.on (Nat.le_trans hB HBr.out.size) bu)
      clear hu yu bu c0 c1
      go_wp2_with fail
      refine (spansOf_any Q m d ts A2 m2 c2 B r.way st u (HRT.out.on hB HBu.out) HRu.out (Nat.le_trans hB HBu.out.size) (okRuns_times HOK.out) HWO.out hs0 (by omega)).mono ?_
      rintro e w5 ⟨A5, q5, d5, rfl, s5, b5⟩
      have HA5 := Lib.hid (HAu.out.on b5 (Nat.le_refl _))
      have hq5 : q5 = r.way.length := by have := s5.len; rw [sps_length, spans_length] at this; omega
      obtain ⟨g5, rfl, _⟩ := s5.lt (by omega)
      have HS5 := Lib.hid s5
      have hq12 : q5 ≤ 12 := by omega
      clear b5 s5 p0 p1 hq5 hml
      go_wp2_with (at_builtin; refine wpList_accMany rfl _ _ 194 rfl 196 _ 3 24 Tryz.underlying194 info_sp9 rfl (by decide) (by decide) HA5.out (Nat.le_refl _) rfl g5 0 q5 d5 (sps (spans ts r.way st)) rfl HS5.out.len (fun j u hu => by rw [Nat.zero_add, HS5.out.cellAt j (by have := HS5.out.len; have := (List.getElem?_eq_some_iff.1 hu).1; omega)]; exact hu) (sps_one _) (by omega) ?_; intro A3 d3 w9 hacc2; have HA9 := Lib.hid hacc2; clear hacc2)
      go_roundw
      case rel => exact ⟨k + 1, _, _, _, by omega, by go_num, rfl, by rw [HSN.out, ← sps_app, HST.out]; exact HA9.out⟩
      case measure => simp [RowKit.intOf]; omega
    · obtain rfl : rn = k := by omega
      have hta : taken ts (rs.take rn) = taken ts rs := by rw [← HRL.out, List.take_length]
      have hsl := HA.out.sl (lo := w.heap.size) (Nat.le_refl _) (Nat.le_refl _)
      rw [hta] at hsl
      have HSL := Lib.hid hsl
      have HTB := Lib.hid (fun o (ho : o ∈ taken ts rs) => taken_bd HOK.out ho)
      have HE := Lib.hid (earl_is HOK.out HWY.out a0)
      have heb := earl_bd HOK.out HWY.out h1
      obtain ⟨E, hE⟩ : ∃ z, earl ts rs way a0 = z := ⟨_, rfl⟩
      rw [hE] at HE heb
      have HEE := Lib.hid hE
      have HFIT := Lib.hid (fun a => wait_fits (ts := ts) (rs := rs) (way := way) (a := a))
      have HJMP := Lib.hid (fun a => wait_jump (ts := ts) (rs := rs) (way := way) (a := a))
      have hql : q ≤ 144 := by
        have h1 := hsl.len
        rw [sps_length] at h1
        have := HTK.out
        have := HRL.out
        omega
      have hq0 : (taken ts rs).length = q := by have h1 := hsl.len; rw [sps_length] at h1; omega
      obtain ⟨tk, htk⟩ : ∃ z, taken ts rs = z := ⟨_, rfl⟩
      rw [htk] at HSL HTB HFIT HJMP hq0
      have HQ0 := Lib.hid hq0
      have hE0 : a0 ≤ E := HE.out.1
      clear hta hsl hE htk hq0
      go_wp2_with fail
      go_loopw [3] (fun fr wv => ∃ a : Int, fr = .int .i64 a ∧ a0 ≤ a ∧ a ≤ E ∧ (∀ y, a0 ≤ y → y < a → fits ts rs way y = false) ∧ Below wr.heap.size wr wv) (fun fr _ => (E - RowKit.intOf fr).toNat)
      case atStart => exact ⟨a0, rfl, Int.le_refl _, hE0, fun y h2 h3 => by omega, Below.refl _ _⟩
      case round =>
        rename World => wv
        obtain ⟨a, rfl, ha0, haE, hno, hbv⟩ := hrel
        have HNO := Lib.hid hno
        have HBv := Lib.hid hbv
        have HBw := Lib.hid (bnext HBr.out hbv (Nat.le_refl _))
        have ha00 : 0 ≤ a := by omega
        have ha9 : a ≤ 112000 := by omega
        clear hno hbv
        go_wp2_with fail
        refine (spansOf_any Q m d ts A n c B way a wv (HRT.out.on hB HBw.out) (HR.out.on hB HBw.out) (Nat.le_trans hB HBw.out.size) (okRuns_times HOK.out) HWY.out ha00 (by omega)).mono ?_
        rintro e w5 ⟨A5, q5, d5, rfl, s5, b5⟩
        have HB5 := Lib.hid (bnext HBv.out b5 (Nat.le_refl _))
        have HSB := Lib.hid (fun s (hs : s ∈ spans ts way a) => spans_bd (okRuns_times HOK.out) way a (okWay_mem HWY.out).2.2 s hs)
        have R5 := Lib.hid (s5.reads (Nat.le_refl _))
        have hq5 : (spans ts way a).length = q5 := by have := s5.len; rw [sps_length] at this; omega
        have hq12 : q5 ≤ 12 := by have := (okWay_mem HWY.out).1; rw [spans_length] at hq5; omega
        have HFA := Lib.hid (HFIT.out a)
        have HJA := Lib.hid (HJMP.out a)
        obtain ⟨sl, hsl⟩ : ∃ z, spans ts way a = z := ⟨_, rfl⟩
        rw [hsl] at R5 HSB HFA HJA hq5
        have HQ5 := Lib.hid hq5
        clear b5 s5 hsl hq5
        go_wp2_with fail
        go_loopw [12, 36] (fun wt i wx => ∃ (k : Nat) (x : Int), k ≤ q5 ∧ i = .int .i64 (k : Int) ∧ wt = .int .i64 x ∧ (0 ≤ x ∧ x ≤ 112000) ∧ waitA tk (sl.drop k) x = waitA tk sl 0 ∧ Below w5.heap.size w5 wx) (fun _ i _ => q5 - (RowKit.intOf i).toNat)
        case atStart => exact ⟨0, 0, Nat.zero_le _, rfl, rfl, by omega, rfl, Below.refl _ _⟩
        case round =>
          rename World => wx
          obtain ⟨i, x, hi, rfl, rfl, hx, hwa, hbx⟩ := hrel
          have HWA := Lib.hid hwa
          have HBx := Lib.hid hbx
          clear hwa hbx
          have hi0 : (0 : Int) ≤ i := by omega
          by_cases hit : i < q5
          · obtain ⟨s, b, off, he, rfl, hb, c0, c1, c2⟩ := sp_at (R5.out.on (Nat.le_refl _) HBx.out) hit
            have hsb := HSB.out s (List.mem_of_getElem? he)
            have hst := HWA.out
            rw [drop_at he, waitA] at hst
            have HST := Lib.hid hst
            have hiq : (i : Int) < q5 := by omega
            have hse : 0 ≤ s.enter := by omega
            have hse2 : s.enter ≤ 200000 := by have := (okWay_mem HWY.out).1; omega
            clear he hst
            go_upto_region 11 with fail
            obtain ⟨u, hu⟩ : ∃ y, wx.alloc (.cells #[.int .i64 s.tube, .int .i64 s.enter, .int .i64 s.leave] 196) = y := ⟨_, rfl⟩
            have yu : Blk u wx.heap.size 196 #[.int .i64 s.tube, .int .i64 s.enter, .int .i64 s.leave] := by rw [← hu]; exact Blk.new _ _ _
            have bu : Below wx.heap.size wx u := by rw [← hu]; exact (Below.refl _ _).alloc (Nat.le_refl _) _
            rw [hu]
            have HYu := Lib.hid yu
            have HBu := Lib.hid (bnext HBx.out bu (Nat.le_refl _))
            clear hu yu bu c0 c1 c2
            go_wp2_with fail
            go_loopw [12, 42] (fun wt j wy => ∃ (k : Nat) (y : Int), k ≤ q ∧ j = .int .i64 (k : Int) ∧ wt = .int .i64 y ∧ (0 ≤ y ∧ y ≤ 112000) ∧ waitL s (tk.drop k) y = waitL s tk x ∧ Below u.heap.size u wy) (fun _ j _ => q - (RowKit.intOf j).toNat)
            case atStart => exact ⟨0, x, Nat.zero_le _, rfl, rfl, hx, rfl, Below.refl _ _⟩
            case round =>
              rename World => wy
              obtain ⟨j, y, hj, rfl, rfl, hy, hwl, hby⟩ := hrel
              have HWL := Lib.hid hwl
              have HBy := Lib.hid hby
              have HBz := Lib.hid (bnext (bnext HB5.out HBu.out (Nat.le_refl _)) hby (Nat.le_refl _))
              clear hwl hby
              have hj0 : (0 : Int) ≤ j := by omega
              by_cases hjt : j < q
              · obtain ⟨o, b2, off2, he, rfl, hb2, c0, c1, c2⟩ := sp_at ((HSL.out.on HBz.out).low.reads (Nat.le_refl _)) hjt
                have hob := HTB.out o (List.mem_of_getElem? he)
                have hst := HWL.out
                rw [drop_at he, waitL] at hst
                have HSTL := Lib.hid hst
                have hjq : (j : Int) < q := by omega
                clear he hst
                go_upto_region 14 with fail
                obtain ⟨v, hv⟩ : ∃ y, wy.alloc (.cells #[.int .i64 o.tube, .int .i64 o.enter, .int .i64 o.leave] 196) = y := ⟨_, rfl⟩
                have yv : Blk v wy.heap.size 196 #[.int .i64 o.tube, .int .i64 o.enter, .int .i64 o.leave] := by rw [← hv]; exact Blk.new _ _ _
                have bv : Below wy.heap.size wy v := by rw [← hv]; exact (Below.refl _ _).alloc (Nat.le_refl _) _
                rw [hv]
                have yu2 := (HYu.out.on HBy.out).on bv
                have p0 := yv.cellAt 0 (by simp)
                have p1 := yv.cellAt 1 (by simp)
                have p2 := yv.cellAt 2 (by simp)
                have s0 := yu2.cellAt 0 (by simp)
                have s1 := yu2.cellAt 1 (by simp)
                have s2 := yu2.cellAt 2 (by simp)
                simp only [List.getElem_toArray, List.getElem_cons_zero, List.getElem_cons_succ] at p0 p1 p2 s0 s1 s2
                have HBn := Lib.hid (bnext HBy.out bv (Nat.le_refl _))
                clear hv yv bv yu2 c0 c1 c2
                go_wp2_with fail
                refine (meet_any s o v).mono ?_
                rintro e w8 ⟨rfl, b8⟩
                have HB8 := Lib.hid (bnext HBn.out b8 (Nat.le_refl _))
                replace p2 := cell_on b8 p2
                replace s1 := cell_on b8 s1
                clear b8 p0 p1 s0 s2
                rcases hm : meetB s o with _ | _
                · have HN := Lib.hid (show waitL s (tk.drop (j + 1)) y = waitL s tk x by have := HSTL.out; rwa [hm, if_neg (by decide)] at this)
                  go_wp2
                  go_roundw
                  case rel => exact ⟨j + 1, y, by omega, by go_num, rfl, hy, HN.out, HB8.out⟩
                  case measure => simp [RowKit.intOf]; omega
                · have HN := Lib.hid (show waitL s (tk.drop (j + 1)) (max y (o.leave - s.enter)) = waitL s tk x by have := HSTL.out; rwa [hm, if_pos rfl] at this)
                  have hwr : IntKind.i64.wrap (o.leave - s.enter) = o.leave - s.enter := by
                    unfold IntKind.wrap; simp [IntKind.bits, IntKind.signed]; omega
                  go_wp2
                  go_roundw
                  case rel => exact ⟨j + 1, max y (o.leave - s.enter), by omega, by go_num, rfl, by omega, HN.out, HB8.out⟩
                  case measure => simp [RowKit.intOf]; omega
              · obtain rfl : q = j := by omega
                have HN := Lib.hid (show waitA tk (sl.drop (i + 1)) y = waitA tk sl 0 by
                  have h1 := HWL.out
                  rw [← HQ0.out, List.drop_length, waitL] at h1
                  have := HST.out
                  rwa [← h1] at this)
                go_wp2
                go_roundw
                case rel => exact ⟨i + 1, y, by omega, by go_num, rfl, hy, HN.out, bnext HBu.out HBy.out (Nat.le_refl _)⟩
                case measure => simp [RowKit.intOf]; omega
          · obtain rfl : q5 = i := by omega
            have hw0 : x = waitA tk sl 0 := by have h1 := HWA.out; rw [← HQ5.out, List.drop_length, waitA] at h1; exact h1
            by_cases hx0 : x = 0
            · have hfit := HFA.out (by rw [← hw0]; exact hx0)
              have HEQ := Lib.hid (HE.out.uniq ⟨ha0, hfit, HNO.out⟩)
              have hxx : (x == 0) = true := by rw [hx0]; rfl
              have HF := Lib.hid (bnext HBr.out (bnext HB5.out HBx.out (Nat.le_refl _)) (Nat.le_refl _))
              clear hw0 hx0
              go_wp2
              go_ret
              exact ⟨by rw [HEE.out, HEQ.out]; rfl, HF.out⟩
            · have hj := HJA.out (by rw [← hw0]; exact hx0)
              rw [← hw0] at hj
              have hle : a + x ≤ E := by
                by_cases hlt : E < a + x
                · have he := HE.out.2.1
                  by_cases hEa : E < a
                  · rw [HNO.out E hE0 hEa] at he; cases he
                  · rw [hj E (by omega) hlt] at he; cases he
                · omega
              have HJ := Lib.hid hj
              have hxx : (x == 0) = false := by simpa using hx0
              clear hj hw0
              go_wp2
              go_roundw
              case rel =>
                refine ⟨a + x, by go_num, by omega, hle, fun y h2 h3 => ?_, bnext HB5.out HBx.out (Nat.le_refl _)⟩
                by_cases hya : y < a
                · exact HNO.out y h2 hya
                · exact HJ.out y (by omega) h3
              case measure => simp [RowKit.intOf]; omega
end Go.Proofs.YtjalgpioklcbfaaGreatDoor
