/- Commands of the console, as the program carries them out: queue. -/
import Derived.Test.YtjalgpioklcbfaaGreatDoorKExH
import Derived.Test.YtjalgpioklcbfaaGreatDoorMgConsoleAA
set_option linter.unusedVariables false
set_option linter.unusedSimpArgs false
namespace Go.Proofs.YtjalgpioklcbfaaGreatDoor
open Go.RowKit Go.Lib

theorem info_it9 : (Tryz.prog.info? 140).map (fun i => (i.zero, i.size, i.bytes)) = some (some (.agg #[.int .i64 0, .int .i64 0, .int .i64 0]), 3, 24) := by kernel_rfl
theorem its_snoc9 (l : List It) (a b c : Int) : its (l ++ [⟨a, b, c⟩]) = its l ++ [.int .i64 a, .int .i64 b, .int .i64 c] := by
  unfold its
  rw [List.map_append]
  show tbs (l.map itT ++ [⟨a, b, c⟩]) = _
  unfold tbs
  rw [List.flatMap_append]
  rfl
theorem itsOf_get : ∀ (k : Nat) (l : List Int) (a b c : Int), l[3 * k]? = some a → l[3 * k + 1]? = some b → l[3 * k + 2]? = some c → (itsOf l)[k]? = some ⟨a, b, c⟩
  | 0, [], a, b, c, h, _, _ => by simp at h
  | 0, [x], a, b, c, _, h, _ => by simp at h
  | 0, [x, y], a, b, c, _, _, h => by simp at h
  | 0, x :: y :: z :: l, a, b, c, h1, h2, h3 => by
    simp at h1 h2 h3
    subst h1
    subst h2
    subst h3
    rfl
  | k + 1, [], a, b, c, h, _, _ => by simp at h
  | k + 1, [x], a, b, c, h, _, _ => by
    rw [show 3 * (k + 1) = 3 * k + 2 + 1 by omega] at h; simp at h
  | k + 1, [x, y], a, b, c, h, _, _ => by
    rw [show 3 * (k + 1) = 3 * k + 1 + 1 + 1 by omega] at h; simp at h
  | k + 1, x :: y :: z :: l, a, b, c, h1, h2, h3 => by
    rw [show 3 * (k + 1) = 3 * k + 1 + 1 + 1 by omega] at h1 h2 h3
    rw [List.getElem?_cons_succ, List.getElem?_cons_succ, List.getElem?_cons_succ] at h1
    rw [show 3 * k + 1 + 1 + 1 + 1 = (3 * k + 1) + 1 + 1 + 1 by omega, List.getElem?_cons_succ, List.getElem?_cons_succ, List.getElem?_cons_succ] at h2
    rw [show 3 * k + 1 + 1 + 1 + 2 = (3 * k + 2) + 1 + 1 + 1 by omega, List.getElem?_cons_succ, List.getElem?_cons_succ, List.getElem?_cons_succ] at h3
    show (itsOf l)[k]? = some ⟨a, b, c⟩
    exact itsOf_get k l a b c h1 h2 h3
theorem itsOf_len : ∀ (p : Nat) (l : List Int), l.length = 3 * p → (itsOf l).length = p
  | 0, [], _ => rfl
  | 0, x :: l, h => by simp at h
  | p + 1, [], h => by simp at h
  | p + 1, [x], h => by simp at h; omega
  | p + 1, [x, y], h => by simp at h; omega
  | p + 1, x :: y :: z :: l, h => by
    show ((⟨x, y, z⟩ : It) :: itsOf l).length = p + 1
    rw [List.length_cons, itsOf_len p l (by simp at h; omega)]
theorem sv_len {l : List It} {o R : List Int} {t : Int} (h : Sv l o t R) (ho : o.length ≤ l.length) : R.length ≤ l.length := by
  induction h with
  | done _ => exact ho
  | idle _ _ _ ih => exact ih ho
  | step hlt _ _ ih => exact ih (by rw [List.length_append, List.length_singleton]; omega)
theorem srvC_len (l : List It) : (srvC l).1.length ≤ 12 := by
  unfold srvC
  split
  · simp
  · rename_i h
    have hok : okQ l = true := by simpa using h
    have h1 := okQ_len hok
    have h2 := sv_len (svR_is hok) (by simp)
    show (svR l).length ≤ 12
    omega
set_option maxHeartbeats 4000000 in
set_option maxRecDepth 100000 in
theorem execQueue_any {w : World} {lo g : Nat} {h : DkH} {d : Dk} {rh : List RnH} {WA NA : Option Addr} {wn nn : Nat} {ws : List ByteArray} {ns : List Int} {m : Int} (wc nc : Nat) (x : ExIn w lo g h d rh WA wn ws NA nn ns m) (h0 : 0 < wn) (hw : ((wordAt ws 0).toList == [113, 117, 101, 117, 101]) = true) :
    Calls Tryz.prog 36 #[.pointer (some ⟨g, 0, none⟩), .slice WA wn wc, .slice NA nn nc] w fun e w' => ∃ LA ln lc, e = .returned (.tuple #[.slice LA ln lc, .int .i64 (execF d ws ns).code]) ∧ ∃ h' rh', ExOut w w' lo g h' (execF d ws ns).dk rh' LA ln lc (execF d ws ns).lines := by
  have HX := Lib.hid (show execF d ws ns = queueC d ns by unfold execF; rw [if_neg (by rw [notW hw (by decide)]; decide), if_neg (by rw [notW hw (by decide)]; decide), if_neg (by rw [notW hw (by decide)]; decide), if_neg (by rw [notW hw (by decide)]; decide), if_neg (by rw [notW hw (by decide)]; decide), if_neg (by rw [notW hw (by decide)]; decide), if_neg (by rw [notW hw (by decide)]; decide), if_neg (by rw [notW hw (by decide)]; decide), if_pos hw])
  have e0 := notW (l' := [110, 101, 116]) hw (by decide)
  have e1 := notW (l' := [119, 97, 121]) hw (by decide)
  have e2 := notW (l' := [116, 105, 109, 101, 115]) hw (by decide)
  have e3 := notW (l' := [114, 117, 110]) hw (by decide)
  have e4 := notW (l' := [114, 117, 110, 115]) hw (by decide)
  have e5 := notW (l' := [102, 114, 101, 101]) hw (by decide)
  have e6 := notW (l' := [115, 101, 97, 114, 99, 104]) hw (by decide)
  have e7 := notW (l' := [115, 116, 117, 99, 107]) hw (by decide)
  have XI := Lib.hid x
  obtain ⟨s, b0, o0, hs0, rfl, hb0, k0⟩ := str_at x.wsr h0
  rw [Nat.add_zero] at k0
  have hsw : wordAt ws 0 = s := by unfold wordAt; rw [List.getD_eq_getElem?_getD, hs0]; rfl
  rw [hsw] at hw e0 e1 e2 e3 e4 e5 e6 e7
  obtain ⟨c0, c1, c2, c3, c4⟩ := cells5 x.blk
  clear x hs0 hsw
  have hnl := ints_len XI.out.nsr
  have HXS := Lib.hid (show execF d ws ns = if nn % 3 ≠ 0 then ⟨d, [], 7⟩ else ⟨d, [asBytes (numLn (srvC (itsOf ns)).1)], (srvC (itsOf ns)).2⟩ by rw [HX.out, queueC, hnl])
  have HNL := Lib.hid hnl
  have acc0 := Acc.made w 140 3
  have HS0 := Lib.hid (acc0.sl (lo := w.heap.size) (Nat.le_refl _) (Nat.le_refl _))
  have HB0 := Lib.hid (acc0.below (B := w.heap.size) (Nat.le_refl _) (Nat.le_refl _))
  have hnn9 := XI.out.nl
  clear acc0 hnl c0 c1 c2 c3 c4
  by_cases hpar : nn % 3 = 0
  rotate_left
  · have HXF := Lib.hid (show execF d ws ns = ⟨d, [], 7⟩ by rw [HXS.out, if_pos hpar])
    have hp2 : ((nn : Int) % 3 == 0) = false := by
      rw [beq_eq_false_iff_ne]; omega
    have hp3 : ((nn : Int) % 3 != 0) = true := by
      rw [bne_iff_ne]; omega
    clear hpar
    go_enter Tryz.func36, Tryz.ntmps36
    go_wp2
    go_ret2
    exact ⟨none, 0, 0, by rw [HXF.out]; rfl, h, rh, by rw [HXF.out]; exact XI.out.out (Below.refl _ _) (Sl.nil _ _ _ _ _)⟩
  have HXF := Lib.hid (show execF d ws ns = ⟨d, [asBytes (numLn (srvC (itsOf ns)).1)], (srvC (itsOf ns)).2⟩ by rw [HXS.out, if_neg (by omega)])
  have hp2 : ((nn : Int) % 3 == 0) = true := by
    rw [beq_iff_eq]; omega
  have hp3 : ((nn : Int) % 3 != 0) = false := by
    rw [bne_eq_false_iff_eq]; omega
  obtain ⟨p, hp⟩ : ∃ p, nn = 3 * p := ⟨nn / 3, by omega⟩
  have HP := Lib.hid hp
  clear hpar hp
  go_enter Tryz.func36, Tryz.ntmps36
  go_wp2_with fail
  go_loopw [29, 30] (fun o i wr => ∃ (k j : Nat) (A' : Option Addr) (d' : Nat), k ≤ p ∧ j = 3 * k ∧ i = .int .i64 (j : Int) ∧ o = .slice A' k d' ∧ Sl wr w.heap.size wr.heap.size 140 3 A' k d' (its ((itsOf ns).take k)) ∧ Below w.heap.size w wr) (fun _ i _ => nn - (RowKit.intOf i).toNat)
  case atStart => exact ⟨0, 0, _, _, Nat.zero_le _, rfl, rfl, rfl, HS0.out, HB0.out⟩
  case round =>
    obtain ⟨k, j, A', d', hk, hj, rfl, rfl, hsl, hbel⟩ := hrel
    have HS := Lib.hid hsl
    have HBr := Lib.hid hbel
    have HJ := Lib.hid hj
    have hj2 : j ≤ 1048577 := by have := HP.out; omega
    clear hsl hbel hj
    by_cases hlt : k < p
    · have hjn : j + 2 < nn := by have := HP.out; have := HJ.out; omega
      obtain ⟨xa, ba, oa, hxa, hAa, hba, q1⟩ := int_at (XI.out.nsr.on (Nat.le_refl _) HBr.out) (k := j) (by omega)
      subst hAa
      obtain ⟨xb, bb, ob, hxb, hBb, hbb, q2⟩ := int_at (XI.out.nsr.on (Nat.le_refl _) HBr.out) (k := j + 1) (by omega)
      injection hBb with hBb
      injection hBb with hBb hBo
      subst hBb
      subst hBo
      obtain ⟨xc, bc, oc, hxc, hCb, hbc, q3⟩ := int_at (XI.out.nsr.on (Nat.le_refl _) HBr.out) (k := j + 2) (by omega)
      injection hCb with hCb
      injection hCb with hCb hCo
      subst hCb
      subst hCo
      have HPG := Lib.hid (itsOf_get k ns xa xb xc (by rw [← HJ.out]; exact hxa) (by rw [← HJ.out]; exact hxb) (by rw [← HJ.out]; exact hxc))
      have HTK := Lib.hid (show (itsOf ns).take (k + 1) = (itsOf ns).take k ++ [⟨xa, xb, xc⟩] by rw [List.take_add_one, HPG.out]; rfl)
      have hj0 : (0 : Int) ≤ j := by omega
      have hjl : (j : Int) < nn := by omega
      have hjl2 : (j : Int) + 1 < nn := by omega
      have hjl3 : (j : Int) + 2 < nn := by omega
      have hk9 : k ≤ 1048577 := by have := HP.out; omega
      have hz : w.heap.size ≤ wr.heap.size := HBr.out.size
      clear hxa hxb hxc
      have hw1 : IntKind.i64.wrap ((j : Int) + 1) = ((j + 1 : Nat) : Int) := by
        unfold IntKind.wrap; simp [IntKind.bits, IntKind.signed]; omega
      have hw2 : (((j + 1 : Nat) : Int)).toNat = j + 1 := by omega
      have hw4 : (0 : Int) ≤ (j : Int) + 1 := by omega
      have hw3 : (0 : Int) ≤ ((j + 1 : Nat) : Int) ∧ ((j + 1 : Nat) : Int) < nn := by omega
      have hv1 : IntKind.i64.wrap ((j : Int) + 2) = ((j + 2 : Nat) : Int) := by
        unfold IntKind.wrap; simp [IntKind.bits, IntKind.signed]; omega
      have hv2 : (((j + 2 : Nat) : Int)).toNat = j + 2 := by omega
      have hv4 : (0 : Int) ≤ (j : Int) + 2 := by omega
      have hv5 : ((j : Int) + 2).toNat = j + 2 := by omega
      have hv3 : (0 : Int) ≤ ((j + 2 : Nat) : Int) ∧ ((j + 2 : Nat) : Int) < nn := by omega
      go_upto_region 63 with fail
      refine wp_region_held_drew (S := (fun V => V.cell? ⟨ba, oa + j, none⟩ = some (.int .i64 xa) ∧ V.cell? ⟨ba, oa + (j + 1), none⟩ = some (.int .i64 xb) ∧ V.cell? ⟨ba, oa + (j + 2), none⟩ = some (.int .i64 xc))) (by kernel_rfl) ?_ (fun hHeld => ?_)
      · exact ⟨q1, q2, q3⟩
      refine tk 0 rfl ?_ ?_ ?_
      rotate_left
      · intro w _; go_simp; try with_reducible rfl
      try simp only [Act.put, ly]
      refine tk 1 rfl ?_ ?_ ?_
      rotate_left
      · intro w _; go_simp; try with_reducible rfl
      try simp only [Act.put, ly]
      refine tk 2 rfl ?_ ?_ ?_
      rotate_left
      · intro w _; go_simp; try with_reducible rfl
      try simp only [Act.put, ly]
      refine tk 3 rfl ?_ ?_ ?_
      rotate_left
      · intro w _; go_simp; try with_reducible rfl
      try simp only [Act.put, ly]
      refine tk 4 rfl ?_ ?_ ?_
      rotate_left
      · intro w hSw; (try dsimp only at hSw); (have e1 := hSw.1); (have e2 := hSw.2.1); (have e3 := hSw.2.2); go_simp; try with_reducible rfl
      try simp only [Act.put, ly]
      refine tk 5 rfl ?_ ?_ ?_
      rotate_left
      · intro w _; go_simp; try with_reducible rfl
      try simp only [Act.put, ly]
      refine tk 6 rfl ?_ ?_ ?_
      rotate_left
      · intro w _; go_simp; try with_reducible rfl
      try simp only [Act.put, ly]
      refine tk 7 rfl ?_ ?_ ?_
      rotate_left
      · intro w _; go_simp; try with_reducible rfl
      try simp only [Act.put, ly]
      refine tk 8 rfl ?_ ?_ ?_
      rotate_left
      · intro w _; go_simp; try with_reducible rfl
      try simp only [Act.put, ly]
      refine tk 9 rfl ?_ ?_ ?_
      rotate_left
      · intro w hSw; (try dsimp only at hSw); (have e1 := hSw.1); (have e2 := hSw.2.1); (have e3 := hSw.2.2); go_simp; try with_reducible rfl
      try simp only [Act.put, ly]
      refine tk 10 rfl ?_ ?_ ?_
      rotate_left
      · intro w _; go_simp; try with_reducible rfl
      try simp only [Act.put, ly]
      refine tk 11 rfl ?_ ?_ ?_
      rotate_left
      · intro w _; go_simp; try with_reducible rfl
      try simp only [Act.put, ly]
      refine tk 12 rfl ?_ ?_ ?_
      rotate_left
      · intro w _; go_simp; try with_reducible rfl
      try simp only [Act.put, ly]
      refine tk 13 rfl ?_ ?_ ?_
      rotate_left
      · intro w _; go_simp; try with_reducible rfl
      try simp only [Act.put, ly]
      refine tk 14 rfl ?_ ?_ ?_
      rotate_left
      · intro w hSw; (try dsimp only at hSw); (have e1 := hSw.1); (have e2 := hSw.2.1); (have e3 := hSw.2.2); go_simp; try with_reducible rfl
      try simp only [Act.put, ly]
      refine tk 15 rfl ?_ ?_ ?_
      rotate_left
      · intro w _; go_simp; try with_reducible rfl
      try simp only [Act.put, ly]
      refine wpAnyH_ready (rs := [16]) (by kernel_rfl) (by simp) ?_
      refine AllReadyH.cons rfl (fun K hK => ?_) AllReadyH.nil
      go_simp
      refine hK.out _ _ ?_ (fun hNew => ?_)
      · exact ⟨cell_on ((Below.refl _ _).alloc (Nat.le_refl _) _) hHeld.1, cell_on ((Below.refl _ _).alloc (Nat.le_refl _) _) hHeld.2.1, cell_on ((Below.refl _ _).alloc (Nat.le_refl _) _) hHeld.2.2⟩
      clear hK K hHeld
      have hHeld := hNew
      clear hNew
      try simp only [Act.put, ly]
      refine wpAnyH_ready (rs := [17]) (by kernel_rfl) (by simp) ?_
      refine AllReadyH.cons rfl (fun K hK => ?_) AllReadyH.nil
      refine step_oneF rfl _ _ 138 rfl 140 _ 3 24 Tryz.underlying138 info_it9 rfl (by decide) (by decide) HS.out.drew hz rfl [.int .i64 xa, .int .i64 xb, .int .i64 xc] wr.heap.size rfl rfl rfl (fun v hv => by simp at hv; rcases hv with rfl | rfl | rfl <;> rfl) (by omega) ?_
      intro A9 d9 w9 hs9 b9 f9 k9
      refine hK.out _ _ ?_ (fun hNew => ?_)
      · exact ⟨(b9.cell (p := ⟨ba, oa + j, none⟩) hba).trans q1, (b9.cell (p := ⟨ba, oa + (j + 1), none⟩) hba).trans q2, (b9.cell (p := ⟨ba, oa + (j + 2), none⟩) hba).trans q3⟩
      clear hK K hHeld
      have hHeld := hNew
      clear hNew
      try simp only [Act.put, ly]
      refine tk 18 rfl ?_ ?_ ?_
      rotate_left
      · intro w _; go_simp; try with_reducible rfl
      try simp only [Act.put, ly]
      refine wpAnyH_done (by kernel_rfl) ?_ _
      have HF := Lib.hid hs9
      have HBF := Lib.hid (HBr.out.drew.trans b9)
      clear hHeld hs9 b9 f9 k9 q1 q2 q3
      go_wp2
      go_roundw
      case rel => exact ⟨k + 1, j + 3, A9, d9, by omega, by have := HJ.out; omega, by go_num, rfl, by rw [HTK.out, its_snoc9]; exact HF.out, HBF.out⟩
      case measure => simp [RowKit.intOf]; omega
    · obtain rfl : p = k := by omega
      have hpl := itsOf_len p ns (by rw [HNL.out, HP.out])
      obtain ⟨ts, hts⟩ : ∃ z, itsOf ns = z := ⟨_, rfl⟩
      rw [hts] at hpl HS
      have HS2 := Lib.hid (show Sl wr w.heap.size wr.heap.size 140 3 A' p d' (its ts) by have h := HS.out; rwa [List.take_of_length_le (by omega)] at h)
      have HXG := Lib.hid (show execF d ws ns = ⟨d, [asBytes (numLn (srvC ts).1)], (srvC ts).2⟩ by rw [HXF.out, hts])
      have hjn : ¬ (j : Int) < nn := by have := HP.out; have := HJ.out; omega
      have hp9 : p ≤ 1048576 := by have := HP.out; omega
      clear hts hpl HS
      go_wp2_with fail
      refine (implServed_any A' p d' wr.heap.size ts wr (HS2.out.reads (Nat.le_refl _)) (Nat.le_refl _) hp9).mono ?_
      rintro e w6 ⟨A6, n6, d6, rfl, s6, b6⟩
      have HB6 := Lib.hid (bnext HBr.out b6 (Nat.le_refl _))
      have HS6 := Lib.hid s6
      have HFB := Lib.hid (srvC_bd ts)
      have HLL := Lib.hid (srvC_len ts)
      obtain ⟨sf, hsf⟩ : ∃ z, srvC ts = z := ⟨_, rfl⟩
      rw [hsf] at HXG HS6 HFB HLL ⊢
      have hm6 : n6 ≤ 1048576 := by have h1 := ints_len (HS6.out.reads (Nat.le_refl _)); have h2 := HLL.out; omega
      clear s6 b6 hsf
      go_wp2_with fail
      refine (numbersLine_any A6 n6 d6 w6.heap.size sf.1 w6 (HS6.out.reads (Nat.le_refl _)) (Nat.le_refl _) hm6 HFB.out (tabUp XI.out.tab HB6.out)).mono ?_
      rintro e w7 ⟨rfl, b7⟩
      have HB8 := Lib.hid (bnext HB6.out b7 (Nat.le_refl _))
      clear b7
      go_wp2
      go_ret2
      have hz := HB8.out.size
      exact ⟨_, _, _, by rw [HXG.out]; rfl, h, rh, by rw [HXG.out]; exact XI.out.out (HB8.out.alloc hz _) (Sl.one9 hz)⟩
end Go.Proofs.YtjalgpioklcbfaaGreatDoor
