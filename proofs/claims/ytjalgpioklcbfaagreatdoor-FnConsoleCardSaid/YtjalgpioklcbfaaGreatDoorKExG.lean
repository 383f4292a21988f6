/- Commands of the console, as the program carries them out: enter. -/
import Derived.Test.YtjalgpioklcbfaaGreatDoorMgConsoleAS
import Derived.Test.YtjalgpioklcbfaaGreatDoorMgConsoleAA
import Derived.Test.YtjalgpioklcbfaaGreatDoorKLogC
set_option linter.unusedVariables false
set_option linter.unusedSimpArgs false
namespace Go.Proofs.YtjalgpioklcbfaaGreatDoor
open Go.RowKit Go.Lib

theorem addEF_size (s : ByteArray) (x : En) : (addEF s x).1.size ≤ 4000 := by
 unfold addEF addG
 split
 ·split
  ·split
   ·split
    ·exact Nat.zero_le _
    ·rename_i h; exact Nat.not_lt.1 h
   ·exact Nat.zero_le _
  ·exact Nat.zero_le _
 ·exact Nat.zero_le _
theorem valsTo_bd (l : List En) (hl : ∀ x ∈ l, okEn x = true) (t : ByteArray) : ∀ k, (∀ v ∈ valsTo l t k, -1000000 ≤ v ∧ v ≤ 1000000) ∧ (valsTo l t k).length ≤ k
 | 0 => ⟨fun v hv => (by cases hv), Nat.le_refl _⟩
 | k + 1 => by
  have ih := valsTo_bd l hl t k
  rw [valsTo]
  split
  ·exact ⟨ih.1, by omega⟩
  ·rename_i x hx
   split
   ·have hb := okEn_bd (hl x (List.mem_of_getElem? hx))
    refine ⟨fun v hv => ?_, by rw [List.length_append, List.length_singleton]; omega⟩
    rw [List.mem_append, List.mem_singleton] at hv
    rcases hv with hv | rfl
    ·exact ih.1 v hv
    ·exact ⟨hb.2.2.2.1, hb.2.2.2.2⟩
   ·exact ⟨ih.1, by omega⟩
theorem valsF_bd (s t : ByteArray) : (∀ v ∈ valsF s t, -1000000 ≤ v ∧ v ≤ 1000000) ∧ (valsF s t).length ≤ 4000 := by
 by_cases hw : whatF s t = 0
 ·rw [valsF_ok hw]
  have hc : codeF s = 0 := by
   by_cases e : codeF s = 0
   ·exact e
   ·rw [whatF_bad e] at hw; exact hw
  have h := valsTo_bd (logR s).list (logR_ok s).ok t (logR s).list.length
  have h4 := logR_len hc
  exact ⟨h.1, by omega⟩
 ·rw [valsF_bad hw]
  exact ⟨fun v hv => (by cases hv), by simp⟩
theorem sumTo_bd9 {xs : List Int} (h : ∀ v ∈ xs, -1000000 ≤ v ∧ v ≤ 1000000) : ∀ k : Nat, -1000000 * (k : Int) ≤ sumTo xs k ∧ sumTo xs k ≤ 1000000 * (k : Int)
 | 0 => by simp [sumTo]
 | k + 1 => by
  have ih := sumTo_bd9 h k
  have hk : -1000000 ≤ xs.getD k 0 ∧ xs.getD k 0 ≤ 1000000 := by
   rw [List.getD_eq_getElem?_getD]
   cases e : xs[k]? with
   | none => simp
   | some v => exact h v (List.mem_of_getElem? e)
  rw [sumTo]
  omega
set_option maxHeartbeats 4000000 in
set_option maxRecDepth 100000 in
theorem execEnter_any {w : World} {lo g : Nat} {h : DkH} {d : Dk} {rh : List RnH} {WA NA : Option Addr} {wn nn : Nat} {ws : List ByteArray} {ns : List Int} {m : Int} (wc nc : Nat) (x : ExIn w lo g h d rh WA wn ws NA nn ns m) (h0 : 0 < wn) (hw : ((wordAt ws 0).toList == [101, 110, 116, 101, 114]) = true) (hn : 2 ≤ nn) (hw3 : 2 < wn) :
  Calls Tryz.prog 36 #[.pointer (some ⟨g, 0, none⟩), .slice WA wn wc, .slice NA nn nc] w fun e w' => ∃ LA ln lc, e = .returned (.tuple #[.slice LA ln lc, .int .i64 (execF d ws ns).code]) ∧ ∃ h' rh', ExOut w w' lo g h' (execF d ws ns).dk rh' LA ln lc (execF d ws ns).lines := by
 have HX := Lib.hid (show execF d ws ns = enterC d ws ns by unfold execF; rw [if_neg (by rw [notW hw (by decide)]; decide), if_neg (by rw [notW hw (by decide)]; decide), if_neg (by rw [notW hw (by decide)]; decide), if_neg (by rw [notW hw (by decide)]; decide), if_neg (by rw [notW hw (by decide)]; decide), if_neg (by rw [notW hw (by decide)]; decide), if_neg (by rw [notW hw (by decide)]; decide), if_neg (by rw [notW hw (by decide)]; decide), if_neg (by rw [notW hw (by decide)]; decide), if_pos hw])
 have e0 := notW (l' := [110, 101, 116]) hw (by decide)
 have e1 := notW (l' := [119, 97, 121]) hw (by decide)
 have e2 := notW (l' := [116, 105, 109, 101, 115]) hw (by decide)
 have e3 := notW (l' := [114, 117, 110]) hw (by decide)
 have e4 := notW (l' := [114, 117, 110, 115]) hw (by decide)
 have e5 := notW (l' := [102, 114, 101, 101]) hw (by decide)
 have e6 := notW (l' := [115, 101, 97, 114, 99, 104]) hw (by decide)
 have e7 := notW (l' := [115, 116, 117, 99, 107]) hw (by decide)
 have e8 := notW (l' := [113, 117, 101, 117, 101]) hw (by decide)
 have XI := Lib.hid x
 obtain ⟨s, b0, o0, hs0, rfl, hb0, k0⟩ := str_at x.wsr h0
 rw [Nat.add_zero] at k0
 have hsw : wordAt ws 0 = s := by unfold wordAt; rw [List.getD_eq_getElem?_getD, hs0]; rfl
 rw [hsw] at hw e0 e1 e2 e3 e4 e5 e6 e7 e8
 obtain ⟨c0, c1, c2, c3, c4⟩ := cells5 x.blk
 obtain ⟨n0, bn0, on0, hn0, hNA0, _, q0⟩ := int_at x.nsr (k := 0) (by omega)
 subst hNA0
 rw [Nat.add_zero] at q0
 have HN0 := Lib.hid (show numAt ns 0 = n0 by unfold numAt; rw [List.getD_eq_getElem?_getD, hn0]; rfl)
 have hb0_ := x.nsb n0 (List.mem_of_getElem? hn0)
 obtain ⟨n1, bn1, on1, hn1, hNA1, _, q1⟩ := int_at x.nsr (k := 1) (by omega)
 injection hNA1 with hNA1
 injection hNA1 with hNb1 hNo1
 subst hNb1
 subst hNo1
 have HN1 := Lib.hid (show numAt ns 1 = n1 by unfold numAt; rw [List.getD_eq_getElem?_getD, hn1]; rfl)
 have hb1_ := x.nsb n1 (List.mem_of_getElem? hn1)
 have hi0 : 0 < nn := by omega
 have hi1 : 1 < nn := by omega
 have hii1 : (1 : Int) < nn := by omega
 obtain ⟨s2, bk2, ok2, hs2, hK2, _, k2⟩ := str_at x.wsr hw3
 injection hK2 with hK2
 injection hK2 with hKb hKo
 subst hKb
 subst hKo
 have HW2 := Lib.hid (show wordAt ws 2 = s2 by unfold wordAt; rw [List.getD_eq_getElem?_getD, hs2]; rfl)
 have hsz2 := x.wsz s2 (List.mem_of_getElem? hs2)
 have hk2n : (2 : Int) < wn := by omega
 clear hs2
 clear x hs0 hsw hn0 hn1
 go_enter Tryz.func36, Tryz.ntmps36
 go_wp2_with fail
 refine wp_region_held_drew (S := (fun V => Below w.heap.size w V)) (by kernel_rfl) ?_ (fun hHeld => ?_)
 ·exact (Below.refl _ _).drew
 refine tk 0 rfl ?_ ?_ ?_
 rotate_left
 ·intro w _; go_simp; try with_reducible rfl
 try simp only [Act.put, ly]
 refine tk 1 rfl ?_ ?_ ?_
 rotate_left
 ·intro w _; go_simp; try with_reducible rfl
 try simp only [Act.put, ly]
 refine tk 2 rfl ?_ ?_ ?_
 rotate_left
 ·intro w _; go_simp; try with_reducible rfl
 try simp only [Act.put, ly]
 refine tk 3 rfl ?_ ?_ ?_
 rotate_left
 ·intro w hSw; (try dsimp only at hSw); (have y0 := cell_on hSw c0); (have y1 := cell_on hSw c1); (have y2 := cell_on hSw c2); (have y3 := cell_on hSw c3); (have y4 := cell_on hSw c4); (try have z0 := cell_on hSw q0); (try have z1 := cell_on hSw q1); (try have z2 := cell_on hSw q2); (try have zk := cell_on hSw k0); (have zk2 := cell_on hSw k2); go_simp; try with_reducible rfl
 try simp only [Act.put, ly]
 refine tk 4 rfl ?_ ?_ ?_
 rotate_left
 ·intro w _; go_simp; try with_reducible rfl
 try simp only [Act.put, ly]
 refine tk 5 rfl ?_ ?_ ?_
 rotate_left
 ·intro w _; go_simp; try with_reducible rfl
 try simp only [Act.put, ly]
 refine tk 6 rfl ?_ ?_ ?_
 rotate_left
 ·intro w hSw; (try dsimp only at hSw); (have y0 := cell_on hSw c0); (have y1 := cell_on hSw c1); (have y2 := cell_on hSw c2); (have y3 := cell_on hSw c3); (have y4 := cell_on hSw c4); (try have z0 := cell_on hSw q0); (try have z1 := cell_on hSw q1); (try have z2 := cell_on hSw q2); (try have zk := cell_on hSw k0); (have zk2 := cell_on hSw k2); go_simp; try with_reducible rfl
 try simp only [Act.put, ly]
 refine tk 7 rfl ?_ ?_ ?_
 rotate_left
 ·intro w _; go_simp; try with_reducible rfl
 try simp only [Act.put, ly]
 refine tk 8 rfl ?_ ?_ ?_
 rotate_left
 ·intro w _; go_simp; try with_reducible rfl
 try simp only [Act.put, ly]
 refine tk 9 rfl ?_ ?_ ?_
 rotate_left
 ·intro w hSw; (try dsimp only at hSw); (have y0 := cell_on hSw c0); (have y1 := cell_on hSw c1); (have y2 := cell_on hSw c2); (have y3 := cell_on hSw c3); (have y4 := cell_on hSw c4); (try have z0 := cell_on hSw q0); (try have z1 := cell_on hSw q1); (try have z2 := cell_on hSw q2); (try have zk := cell_on hSw k0); (have zk2 := cell_on hSw k2); go_simp; try with_reducible rfl
 try simp only [Act.put, ly]
 refine tk 10 rfl ?_ ?_ ?_
 rotate_left
 ·intro w _; go_simp; try with_reducible rfl
 try simp only [Act.put, ly]
 refine tk 11 rfl ?_ ?_ ?_
 rotate_left
 ·intro w _; go_simp; try with_reducible rfl
 try simp only [Act.put, ly]
 refine tk 12 rfl ?_ ?_ ?_
 rotate_left
 ·intro w hSw; (try dsimp only at hSw); (have y0 := cell_on hSw c0); (have y1 := cell_on hSw c1); (have y2 := cell_on hSw c2); (have y3 := cell_on hSw c3); (have y4 := cell_on hSw c4); (try have z0 := cell_on hSw q0); (try have z1 := cell_on hSw q1); (try have z2 := cell_on hSw q2); (try have zk := cell_on hSw k0); (have zk2 := cell_on hSw k2); go_simp; try with_reducible rfl
 try simp only [Act.put, ly]
 refine tk 13 rfl ?_ ?_ ?_
 rotate_left
 ·intro w _; go_simp; try with_reducible rfl
 try simp only [Act.put, ly]
 refine wpAnyH_ready (rs := [14]) (by kernel_rfl) (by simp) ?_
 refine AllReadyH.cons rfl (fun K hK => ?_) AllReadyH.nil
 go_simp
 refine (implAddEntry_any d.log ⟨n0, s2, n1⟩ m _ XI.out.small.log ⟨hb0_, by show s2.size ≤ 9223372036854775807; omega, hb1_⟩ (by show s2.size ≤ 1048576; exact hsz2) (cell_on hHeld XI.out.max) (tabUp XI.out.tab hHeld) (synUp XI.out.syn hHeld)).mono ?_
 rintro e w5 ⟨rfl, b5⟩
 go_wp2_with fail
 refine hK.out _ _ ?_ (fun hNew => ?_)
 ·exact bnext hHeld b5 (Nat.le_refl _)
 clear hK K hHeld
 have hHeld := hNew
 clear hNew
 try simp only [Act.put, ly]
 refine tk 15 rfl ?_ ?_ ?_
 rotate_left
 ·intro w _; go_simp; try with_reducible rfl
 try simp only [Act.put, ly]
 refine tk 16 rfl ?_ ?_ ?_
 rotate_left
 ·intro w _; go_simp; try with_reducible rfl
 try simp only [Act.put, ly]
 refine tk 17 rfl ?_ ?_ ?_
 rotate_left
 ·intro w _; go_simp; try with_reducible rfl
 try simp only [Act.put, ly]
 refine tk 18 rfl ?_ ?_ ?_
 rotate_left
 ·intro w _; go_simp; try with_reducible rfl
 try simp only [Act.put, ly]
 refine tk 19 rfl ?_ ?_ ?_
 rotate_left
 ·intro w _; go_simp; try with_reducible rfl
 try simp only [Act.put, ly]
 refine wpAnyH_done (by kernel_rfl) ?_ _
 have HB5 := Lib.hid hHeld
 clear hHeld
 have HSZ := Lib.hid (addEF_size d.log ⟨n0, s2, n1⟩)
 obtain ⟨ae, hae⟩ : ∃ z, addEF d.log ⟨n0, s2, n1⟩ = z := ⟨_, rfl⟩
 rw [hae] at HSZ ⊢
 have HX2 := Lib.hid (show execF d ws ns = if ae.2 ≠ 0 then ⟨d, [], ae.2⟩ else ⟨⟨d.net, d.times, d.runs, ae.1⟩, [asBytes (itoa (sumTo (valsF ae.1 s2) (valsF ae.1 s2).length))], whatF ae.1 s2⟩ by rw [HX.out, enterC, HN0.out, HN1.out, HW2.out, hae])
 clear hae
 obtain ⟨lg, ac⟩ := ae
 simp only at HSZ HX2
 replace c4 := cell_on HB5.out c4
 clear c0 c1 c2 c3
 by_cases hc : ac = 0
 rotate_left
 ·have HXF := Lib.hid (show execF d ws ns = ⟨d, [], ac⟩ by rw [HX2.out, if_pos hc])
  have hcc : (ac == 0) = false := by simpa using hc
  have hcd : (ac != 0) = true := by simpa using hc
  clear hc
  go_wp2
  go_ret2
  exact ⟨none, 0, 0, by rw [HXF.out]; rfl, h, rh, by rw [HXF.out]; exact XI.out.out HB5.out (Sl.nil _ _ _ _ _)⟩
 subst hc
 have HXF := Lib.hid (show execF d ws ns = ⟨⟨d.net, d.times, d.runs, lg⟩, [asBytes (itoa (sumTo (valsF lg s2) (valsF lg s2).length))], whatF lg s2⟩ by rw [HX2.out, if_neg (by simp)])
 have Y5 := XI.out.blk.on HB5.out
 have f4 := Y5.frozen 4
 have HY5 := Lib.hid Y5
 clear Y5
 go_upto_region 71 with fail
 obtain ⟨u, hu⟩ : ∃ y, w5.setCell ⟨g, 4, none⟩ (.string lg) = y := ⟨_, rfl⟩
 have ho : Only g (g + 1) w5 u := by rw [← hu]; exact (Only.refl g (g + 1) w5).setCell (p := ⟨g, 4, none⟩) (Nat.le_refl _) (Nat.lt_succ_self _) _
 have yu : Blk u g 32 #[.int .i64 d.net.sta, .slice h.A1 h.n1 h.c1, .slice h.A2 h.n2 h.c2, .slice h.A3 h.n3 h.c3, .string lg] := by
  rw [← hu]
  have := HY5.out.set_ 4 (.string lg)
  simpa using this
 rw [hu]
 have hgw := XI.out.blk.lt
 have hgl := XI.out.glo
 have bu : Below lo w u := (HB5.out.mono (by omega)).trans (ho.below (by omega) (by have := HB5.out.size; omega))
 have ou := ((XI.out.own.on HB5.out).off (S := fun b => b = g) ⟨ho.os, ho.tape, ho.output, ho.size, fun k hk hn => ho.block k hk (by omega)⟩ (fun b hb => XI.out.gne b hb)).low
 have on_ : OwnD u lo u.heap.size h ⟨d.net, d.times, d.runs, lg⟩ rh := ⟨ou.tubes, ou.times, ou.runs, ou.n12, ou.n1r, ou.n2r⟩
 have d4 := yu.cellAt 4 (by simp)
 simp only [List.getElem_toArray, List.getElem_cons_zero, List.getElem_cons_succ] at d4
 have k2u := (bu.cell (p := ⟨b0, o0 + 2, none⟩) hb0).trans k2
 have HYU := Lib.hid yu
 have HBU := Lib.hid bu
 have HON := Lib.hid on_
 have HLU := Lib.hid (show lo ≤ u.heap.size by have := HB5.out.size; have := ho.size; omega)
 have HZU := Lib.hid (show w.heap.size ≤ u.heap.size from Nat.le_trans HB5.out.size ho.size)
 clear hu ho yu hgw hgl bu ou on_ c4 f4 k0 k2
 refine wp_region_held_drew (S := (fun V => Below u.heap.size u V)) (by kernel_rfl) ?_ (fun hHeld => ?_)
 ·exact (Below.refl _ _).drew
 refine tk 0 rfl ?_ ?_ ?_
 rotate_left
 ·intro w _; go_simp; try with_reducible rfl
 try simp only [Act.put, ly]
 refine tk 1 rfl ?_ ?_ ?_
 rotate_left
 ·intro w _; go_simp; try with_reducible rfl
 try simp only [Act.put, ly]
 refine tk 2 rfl ?_ ?_ ?_
 rotate_left
 ·intro w _; go_simp; try with_reducible rfl
 try simp only [Act.put, ly]
 refine tk 3 rfl ?_ ?_ ?_
 rotate_left
 ·intro w hSw; (try dsimp only at hSw); (have y4 := cell_on hSw d4); (have zk2 := cell_on hSw k2u); go_simp; try with_reducible rfl
 try simp only [Act.put, ly]
 refine tk 4 rfl ?_ ?_ ?_
 rotate_left
 ·intro w _; go_simp; try with_reducible rfl
 try simp only [Act.put, ly]
 refine tk 5 rfl ?_ ?_ ?_
 rotate_left
 ·intro w _; go_simp; try with_reducible rfl
 try simp only [Act.put, ly]
 refine tk 6 rfl ?_ ?_ ?_
 rotate_left
 ·intro w hSw; (try dsimp only at hSw); (have y4 := cell_on hSw d4); (have zk2 := cell_on hSw k2u); go_simp; try with_reducible rfl
 try simp only [Act.put, ly]
 refine wpAnyH_ready (rs := [7]) (by kernel_rfl) (by simp) ?_
 refine AllReadyH.cons rfl (fun K hK => ?_) AllReadyH.nil
 go_simp
 refine (implValuesOf_any lg s2 m _ (by have := HSZ.out; omega) hsz2 (maxUpB XI.out.max XI.out.low (HBU.out.trans (hHeld.mono HLU.out))) (tabUpB XI.out.tab XI.out.low (HBU.out.trans (hHeld.mono HLU.out))) (synUpB XI.out.syn XI.out.low (HBU.out.trans (hHeld.mono HLU.out)))).mono ?_
 rintro e w7 ⟨A7, n7, d7, rfl, s7, b7⟩
 have HS7 := Lib.hid s7
 go_wp2_with fail
 refine hK.out _ _ ?_ (fun hNew => ?_)
 ·exact bnext hHeld b7 (Nat.le_refl _)
 clear hK K hHeld
 have hHeld := hNew
 clear hNew
 try simp only [Act.put, ly]
 refine tk 8 rfl ?_ ?_ ?_
 rotate_left
 ·intro w _; go_simp; try with_reducible rfl
 try simp only [Act.put, ly]
 refine tk 9 rfl ?_ ?_ ?_
 rotate_left
 ·intro w _; go_simp; try with_reducible rfl
 try simp only [Act.put, ly]
 refine tk 10 rfl ?_ ?_ ?_
 rotate_left
 ·intro w _; go_simp; try with_reducible rfl
 try simp only [Act.put, ly]
 refine tk 11 rfl ?_ ?_ ?_
 rotate_left
 ·intro w _; go_simp; try with_reducible rfl
 try simp only [Act.put, ly]
 refine tk 12 rfl ?_ ?_ ?_
 rotate_left
 ·intro w _; go_simp; try with_reducible rfl
 try simp only [Act.put, ly]
 refine wpAnyH_done (by kernel_rfl) ?_ _
 have HB7 := Lib.hid hHeld
 clear hHeld
 have hvb := valsF_bd lg s2
 have hvl := ints_len (HS7.out.reads (Nat.le_refl _))
 have hsb := sumTo_bd9 hvb.1 (valsF lg s2).length
 have HVB := Lib.hid hvb
 have HIB := Lib.hid (show i64b (sumTo (valsF lg s2) (valsF lg s2).length) from ⟨by omega, by omega⟩)
 have hn7 : n7 ≤ 4000 := by omega
 have HVL := Lib.hid hvl
 clear hvb hvl hsb
 go_wp2_with fail
 refine (sumOf_any A7 n7 d7 w7.heap.size (valsF lg s2) w7 (HS7.out.reads (Nat.le_refl _)) (by omega) (fun x hx => by have := HVB.out.1 x hx; omega)).mono ?_
 rintro e w8 ⟨rfl, rfl⟩
 rw [← HVL.out]
 go_wp2_with fail
 refine (decimal_any (sumTo (valsF lg s2) (valsF lg s2).length) w7 HIB.out.1 HIB.out.2 (tabUpB XI.out.tab XI.out.low (HBU.out.trans (HB7.out.mono HLU.out)))).mono ?_
 rintro e w9 ⟨rfl, b9⟩
 have HB9 := Lib.hid (bnext HB7.out b9 (Nat.le_refl _))
 clear b9
 go_wp2
 go_ret2
 have hz := HB9.out.size
 have b8 := HB9.out.alloc hz (.cells #[.string (asBytes (itoa (sumTo (valsF lg s2) (valsF lg s2).length)))] 9)
 have s8 := Sl.one9 (W := w9) (s := asBytes (itoa (sumTo (valsF lg s2) (valsF lg s2).length))) hz
 have hgw := HYU.out.lt
 have hgl := XI.out.glo
 have hlu := HLU.out
 refine ⟨_, _, _, by rw [HXF.out]; rfl, h, rh, ?_⟩
 rw [HXF.out]
 refine ⟨HYU.out.on b8, (HON.out.on b8).wide (Nat.le_refl _) b8.size, XI.out.gne, s8.wide (by omega) (Nat.le_refl _), fun b hb hd => ?_, fun b hb e => ?_, HBU.out.trans (b8.mono (by omega))⟩
 ·have := s8.inB_lt hb; have := HON.out.inD_lt hd; omega
 ·have := s8.inB_lt hb; omega
end Go.Proofs.YtjalgpioklcbfaaGreatDoor
