/- Commands of the console, as the program carries them out: way, free, search. -/
import Derived.Test.YtjalgpioklcbfaaGreatDoorMgConsoleAQ
import Derived.Test.YtjalgpioklcbfaaGreatDoorMgConsoleAA
set_option linter.unusedVariables false
set_option linter.unusedSimpArgs false
namespace Go.Proofs.YtjalgpioklcbfaaGreatDoor
open Go.RowKit Go.Lib

set_option maxHeartbeats 4000000 in
set_option maxRecDepth 100000 in
theorem execWay_any {w : World} {lo g : Nat} {h : DkH} {d : Dk} {rh : List RnH} {WA NA : Option Addr} {wn nn : Nat} {ws : List ByteArray} {ns : List Int} {m : Int} (wc nc : Nat) (x : ExIn w lo g h d rh WA wn ws NA nn ns m) (h0 : 0 < wn) (hw : ((wordAt ws 0).toList == [119, 97, 121]) = true) (hn : 2 ≤ nn) :
    Calls Tryz.prog 36 #[.pointer (some ⟨g, 0, none⟩), .slice WA wn wc, .slice NA nn nc] w fun e w' => ∃ LA ln lc, e = .returned (.tuple #[.slice LA ln lc, .int .i64 (execF d ws ns).code]) ∧ ∃ h' rh', ExOut w w' lo g h' (execF d ws ns).dk rh' LA ln lc (execF d ws ns).lines := by
  have HX := Lib.hid (show execF d ws ns = wayCm d ns by unfold execF; rw [if_neg (by rw [notW hw (by decide)]; decide), if_pos hw])
  have e0 := notW (l' := [110, 101, 116]) hw (by decide)
  have XI := Lib.hid x
  obtain ⟨s, b0, o0, hs0, rfl, hb0, k0⟩ := str_at x.wsr h0
  rw [Nat.add_zero] at k0
  have hsw : wordAt ws 0 = s := by unfold wordAt; rw [List.getD_eq_getElem?_getD, hs0]; rfl
  rw [hsw] at hw e0
  obtain ⟨c0, c1, c2, c3, c4⟩ := cells5 x.blk
  obtain ⟨n0, bn0, on0, hn0, hNA0, _, q0⟩ := int_at x.nsr (k := 0) (by omega)
  subst hNA0
  rw [Nat.add_zero] at q0
  have HN0 := Lib.hid (show numAt ns 0 = n0 by unfold numAt; rw [List.getD_eq_getElem?_getD, hn0]; rfl)
  have hb0_ := x.nsb n0 (List.mem_of_getElem? hn0)
  obtain ⟨n1, bn1, on1, hn1, hNA1, _, q1⟩ := int_at x.nsr (k := 1) (by omega)
  injection hNA1 with hNA1
  injection hNA1 with hNb1 hNo1
  subst hNb1
  subst hNo1
  have HN1 := Lib.hid (show numAt ns 1 = n1 by unfold numAt; rw [List.getD_eq_getElem?_getD, hn1]; rfl)
  have hb1_ := x.nsb n1 (List.mem_of_getElem? hn1)
  have hi0 : 0 < nn := by omega
  have hi1 : 1 < nn := by omega
  have hii1 : (1 : Int) < nn := by omega
  clear x hs0 hsw hn0 hn1
  go_enter Tryz.func36, Tryz.ntmps36
  go_wp2_with fail
  refine wp_region_held_drew (S := (fun V => Below w.heap.size w V)) (by kernel_rfl) ?_ (fun hHeld => ?_)
  · exact (Below.refl _ _).drew
  refine tk 0 rfl ?_ ?_ ?_
  rotate_left
  · intro w _; go_simp; try with_reducible rfl
  try simp only [Act.put, ly]
  refine tk 1 rfl ?_ ?_ ?_
  rotate_left
  · intro w _; go_simp; try with_reducible rfl
  try simp only [Act.put, ly]
  refine tk 2 rfl ?_ ?_ ?_
  rotate_left
  · intro w _; go_simp; try with_reducible rfl
  try simp only [Act.put, ly]
  refine tk 3 rfl ?_ ?_ ?_
  rotate_left
  · intro w hSw; (try dsimp only at hSw); (have y0 := cell_on hSw c0); (have y1 := cell_on hSw c1); (have y2 := cell_on hSw c2); (have y3 := cell_on hSw c3); (have y4 := cell_on hSw c4); (try have z0 := cell_on hSw q0); (try have z1 := cell_on hSw q1); (try have z2 := cell_on hSw q2); (try have zk := cell_on hSw k0); go_simp; try with_reducible rfl
  try simp only [Act.put, ly]
  refine tk 4 rfl ?_ ?_ ?_
  rotate_left
  · intro w _; go_simp; try with_reducible rfl
  try simp only [Act.put, ly]
  refine tk 5 rfl ?_ ?_ ?_
  rotate_left
  · intro w _; go_simp; try with_reducible rfl
  try simp only [Act.put, ly]
  refine tk 6 rfl ?_ ?_ ?_
  rotate_left
  · intro w hSw; (try dsimp only at hSw); (have y0 := cell_on hSw c0); (have y1 := cell_on hSw c1); (have y2 := cell_on hSw c2); (have y3 := cell_on hSw c3); (have y4 := cell_on hSw c4); (try have z0 := cell_on hSw q0); (try have z1 := cell_on hSw q1); (try have z2 := cell_on hSw q2); (try have zk := cell_on hSw k0); go_simp; try with_reducible rfl
  try simp only [Act.put, ly]
  refine tk 7 rfl ?_ ?_ ?_
  rotate_left
  · intro w _; go_simp; try with_reducible rfl
  try simp only [Act.put, ly]
  refine tk 8 rfl ?_ ?_ ?_
  rotate_left
  · intro w _; go_simp; try with_reducible rfl
  try simp only [Act.put, ly]
  refine tk 9 rfl ?_ ?_ ?_
  rotate_left
  · intro w hSw; (try dsimp only at hSw); (have y0 := cell_on hSw c0); (have y1 := cell_on hSw c1); (have y2 := cell_on hSw c2); (have y3 := cell_on hSw c3); (have y4 := cell_on hSw c4); (try have z0 := cell_on hSw q0); (try have z1 := cell_on hSw q1); (try have z2 := cell_on hSw q2); (try have zk := cell_on hSw k0); go_simp; try with_reducible rfl
  try simp only [Act.put, ly]
  refine wpAnyH_ready (rs := [10]) (by kernel_rfl) (by simp) ?_
  refine AllReadyH.cons rfl (fun K hK => ?_) AllReadyH.nil
  go_simp
  refine (implWay_any h.A1 h.n1 h.c1 w.heap.size d.net n0 n1 _ ((XI.out.own.tubes.reads (Nat.le_refl _)).on (Nat.le_refl _) hHeld) hHeld.size XI.out.small.n1).mono ?_
  rintro e w5 ⟨A5, m5, d5, rfl, s5, b5⟩
  have HS5 := Lib.hid s5
  go_wp2_with fail
  refine hK.out _ _ ?_ (fun hNew => ?_)
  · exact bnext hHeld b5 (Nat.le_refl _)
  clear hK K hHeld
  have hHeld := hNew
  clear hNew
  try simp only [Act.put, ly]
  refine tk 11 rfl ?_ ?_ ?_
  rotate_left
  · intro w _; go_simp; try with_reducible rfl
  try simp only [Act.put, ly]
  refine tk 12 rfl ?_ ?_ ?_
  rotate_left
  · intro w _; go_simp; try with_reducible rfl
  try simp only [Act.put, ly]
  refine tk 13 rfl ?_ ?_ ?_
  rotate_left
  · intro w _; go_simp; try with_reducible rfl
  try simp only [Act.put, ly]
  refine tk 14 rfl ?_ ?_ ?_
  rotate_left
  · intro w _; go_simp; try with_reducible rfl
  try simp only [Act.put, ly]
  refine tk 15 rfl ?_ ?_ ?_
  rotate_left
  · intro w _; go_simp; try with_reducible rfl
  try simp only [Act.put, ly]
  refine wpAnyH_done (by kernel_rfl) ?_ _
  have HB5 := Lib.hid hHeld
  clear hHeld
  have HWB := Lib.hid (wayC_bd d.net n0 n1)
  obtain ⟨wl, hwl⟩ : ∃ z, wayC d.net n0 n1 = z := ⟨_, rfl⟩
  rw [hwl] at HS5 HWB ⊢
  have HWL := Lib.hid hwl
  have HXF := Lib.hid (show execF d ws ns = ⟨d, [asBytes (numLn wl.1)], wl.2⟩ by rw [HX.out, wayCm, HN0.out, HN1.out, hwl])
  clear hwl
  have hm5 : m5 ≤ 1048576 := by have h1 := ints_len (HS5.out.reads (Nat.le_refl _)); have h2 := wayC_len d.net n0 n1; rw [HWL.out] at h2; omega
  go_wp2_with fail
  refine (numbersLine_any A5 m5 d5 w5.heap.size wl.1 w5 (HS5.out.reads (Nat.le_refl _)) (Nat.le_refl _) hm5 HWB.out (tabUp XI.out.tab HB5.out)).mono ?_
  rintro e w6 ⟨rfl, b6⟩
  have HB6 := Lib.hid (bnext HB5.out b6 (Nat.le_refl _))
  clear b6
  go_wp2
  go_ret2
  have hz := HB6.out.size
  exact ⟨_, _, _, by rw [HXF.out]; rfl, h, rh, by rw [HXF.out]; exact XI.out.out (HB6.out.alloc hz _) (Sl.one9 hz)⟩
set_option maxHeartbeats 4000000 in
set_option maxRecDepth 100000 in
theorem execFree_any {w : World} {lo g : Nat} {h : DkH} {d : Dk} {rh : List RnH} {WA NA : Option Addr} {wn nn : Nat} {ws : List ByteArray} {ns : List Int} {m : Int} (wc nc : Nat) (x : ExIn w lo g h d rh WA wn ws NA nn ns m) (h0 : 0 < wn) (hw : ((wordAt ws 0).toList == [102, 114, 101, 101]) = true) (hn : 3 ≤ nn) :
    Calls Tryz.prog 36 #[.pointer (some ⟨g, 0, none⟩), .slice WA wn wc, .slice NA nn nc] w fun e w' => ∃ LA ln lc, e = .returned (.tuple #[.slice LA ln lc, .int .i64 (execF d ws ns).code]) ∧ ∃ h' rh', ExOut w w' lo g h' (execF d ws ns).dk rh' LA ln lc (execF d ws ns).lines := by
  have HX := Lib.hid (show execF d ws ns = freeC d ns by unfold execF; rw [if_neg (by rw [notW hw (by decide)]; decide), if_neg (by rw [notW hw (by decide)]; decide), if_neg (by rw [notW hw (by decide)]; decide), if_neg (by rw [notW hw (by decide)]; decide), if_neg (by rw [notW hw (by decide)]; decide), if_pos hw])
  have e0 := notW (l' := [110, 101, 116]) hw (by decide)
  have e1 := notW (l' := [119, 97, 121]) hw (by decide)
  have e2 := notW (l' := [116, 105, 109, 101, 115]) hw (by decide)
  have e3 := notW (l' := [114, 117, 110]) hw (by decide)
  have e4 := notW (l' := [114, 117, 110, 115]) hw (by decide)
  have XI := Lib.hid x
  obtain ⟨s, b0, o0, hs0, rfl, hb0, k0⟩ := str_at x.wsr h0
  rw [Nat.add_zero] at k0
  have hsw : wordAt ws 0 = s := by unfold wordAt; rw [List.getD_eq_getElem?_getD, hs0]; rfl
  rw [hsw] at hw e0 e1 e2 e3 e4
  obtain ⟨c0, c1, c2, c3, c4⟩ := cells5 x.blk
  obtain ⟨n0, bn0, on0, hn0, hNA0, _, q0⟩ := int_at x.nsr (k := 0) (by omega)
  subst hNA0
  rw [Nat.add_zero] at q0
  have HN0 := Lib.hid (show numAt ns 0 = n0 by unfold numAt; rw [List.getD_eq_getElem?_getD, hn0]; rfl)
  have hb0_ := x.nsb n0 (List.mem_of_getElem? hn0)
  obtain ⟨n1, bn1, on1, hn1, hNA1, _, q1⟩ := int_at x.nsr (k := 1) (by omega)
  injection hNA1 with hNA1
  injection hNA1 with hNb1 hNo1
  subst hNb1
  subst hNo1
  have HN1 := Lib.hid (show numAt ns 1 = n1 by unfold numAt; rw [List.getD_eq_getElem?_getD, hn1]; rfl)
  have hb1_ := x.nsb n1 (List.mem_of_getElem? hn1)
  obtain ⟨n2, bn2, on2, hn2, hNA2, _, q2⟩ := int_at x.nsr (k := 2) (by omega)
  injection hNA2 with hNA2
  injection hNA2 with hNb2 hNo2
  subst hNb2
  subst hNo2
  have HN2 := Lib.hid (show numAt ns 2 = n2 by unfold numAt; rw [List.getD_eq_getElem?_getD, hn2]; rfl)
  have hb2_ := x.nsb n2 (List.mem_of_getElem? hn2)
  have hi0 : 0 < nn := by omega
  have hi1 : 1 < nn := by omega
  have hi2 : 2 < nn := by omega
  have hii1 : (1 : Int) < nn := by omega
  have hii2 : (2 : Int) < nn := by omega
  clear x hs0 hsw hn0 hn1 hn2
  go_enter Tryz.func36, Tryz.ntmps36
  go_wp2_with fail
  refine wp_region_held_drew (S := (fun V => Below w.heap.size w V)) (by kernel_rfl) ?_ (fun hHeld => ?_)
  · exact (Below.refl _ _).drew
  refine tk 0 rfl ?_ ?_ ?_
  rotate_left
  · intro w _; go_simp; try with_reducible rfl
  try simp only [Act.put, ly]
  refine tk 1 rfl ?_ ?_ ?_
  rotate_left
  · intro w _; go_simp; try with_reducible rfl
  try simp only [Act.put, ly]
  refine tk 2 rfl ?_ ?_ ?_
  rotate_left
  · intro w _; go_simp; try with_reducible rfl
  try simp only [Act.put, ly]
  refine tk 3 rfl ?_ ?_ ?_
  rotate_left
  · intro w hSw; (try dsimp only at hSw); (have y0 := cell_on hSw c0); (have y1 := cell_on hSw c1); (have y2 := cell_on hSw c2); (have y3 := cell_on hSw c3); (have y4 := cell_on hSw c4); (try have z0 := cell_on hSw q0); (try have z1 := cell_on hSw q1); (try have z2 := cell_on hSw q2); (try have zk := cell_on hSw k0); go_simp; try with_reducible rfl
  try simp only [Act.put, ly]
  refine tk 4 rfl ?_ ?_ ?_
  rotate_left
  · intro w _; go_simp; try with_reducible rfl
  try simp only [Act.put, ly]
  refine tk 5 rfl ?_ ?_ ?_
  rotate_left
  · intro w _; go_simp; try with_reducible rfl
  try simp only [Act.put, ly]
  refine tk 6 rfl ?_ ?_ ?_
  rotate_left
  · intro w _; go_simp; try with_reducible rfl
  try simp only [Act.put, ly]
  refine tk 7 rfl ?_ ?_ ?_
  rotate_left
  · intro w hSw; (try dsimp only at hSw); (have y0 := cell_on hSw c0); (have y1 := cell_on hSw c1); (have y2 := cell_on hSw c2); (have y3 := cell_on hSw c3); (have y4 := cell_on hSw c4); (try have z0 := cell_on hSw q0); (try have z1 := cell_on hSw q1); (try have z2 := cell_on hSw q2); (try have zk := cell_on hSw k0); go_simp; try with_reducible rfl
  try simp only [Act.put, ly]
  refine tk 8 rfl ?_ ?_ ?_
  rotate_left
  · intro w _; go_simp; try with_reducible rfl
  try simp only [Act.put, ly]
  refine tk 9 rfl ?_ ?_ ?_
  rotate_left
  · intro w _; go_simp; try with_reducible rfl
  try simp only [Act.put, ly]
  refine tk 10 rfl ?_ ?_ ?_
  rotate_left
  · intro w hSw; (try dsimp only at hSw); (have y0 := cell_on hSw c0); (have y1 := cell_on hSw c1); (have y2 := cell_on hSw c2); (have y3 := cell_on hSw c3); (have y4 := cell_on hSw c4); (try have z0 := cell_on hSw q0); (try have z1 := cell_on hSw q1); (try have z2 := cell_on hSw q2); (try have zk := cell_on hSw k0); go_simp; try with_reducible rfl
  try simp only [Act.put, ly]
  refine tk 11 rfl ?_ ?_ ?_
  rotate_left
  · intro w _; go_simp; try with_reducible rfl
  try simp only [Act.put, ly]
  refine tk 12 rfl ?_ ?_ ?_
  rotate_left
  · intro w _; go_simp; try with_reducible rfl
  try simp only [Act.put, ly]
  refine tk 13 rfl ?_ ?_ ?_
  rotate_left
  · intro w hSw; (try dsimp only at hSw); (have y0 := cell_on hSw c0); (have y1 := cell_on hSw c1); (have y2 := cell_on hSw c2); (have y3 := cell_on hSw c3); (have y4 := cell_on hSw c4); (try have z0 := cell_on hSw q0); (try have z1 := cell_on hSw q1); (try have z2 := cell_on hSw q2); (try have zk := cell_on hSw k0); go_simp; try with_reducible rfl
  try simp only [Act.put, ly]
  refine tk 14 rfl ?_ ?_ ?_
  rotate_left
  · intro w _; go_simp; try with_reducible rfl
  try simp only [Act.put, ly]
  refine tk 15 rfl ?_ ?_ ?_
  rotate_left
  · intro w _; go_simp; try with_reducible rfl
  try simp only [Act.put, ly]
  refine tk 16 rfl ?_ ?_ ?_
  rotate_left
  · intro w hSw; (try dsimp only at hSw); (have y0 := cell_on hSw c0); (have y1 := cell_on hSw c1); (have y2 := cell_on hSw c2); (have y3 := cell_on hSw c3); (have y4 := cell_on hSw c4); (try have z0 := cell_on hSw q0); (try have z1 := cell_on hSw q1); (try have z2 := cell_on hSw q2); (try have zk := cell_on hSw k0); go_simp; try with_reducible rfl
  try simp only [Act.put, ly]
  refine wpAnyH_ready (rs := [17]) (by kernel_rfl) (by simp) ?_
  refine AllReadyH.cons rfl (fun K hK => ?_) AllReadyH.nil
  go_simp
  refine (implFree_any h.A2 h.n2 h.c2 d.times h.A3 h.n3 h.c3 d.runs w.heap.size n0 n1 n2 _ ((XI.out.own.times.reads (Nat.le_refl _)).on (Nat.le_refl _) hHeld) ((XI.out.own.runs.reads (Nat.le_refl _)).on (Nat.le_refl _) hHeld) hHeld.size XI.out.small.n2 XI.out.small.n3 XI.out.small.runs).mono ?_
  rintro e w5 ⟨rfl, b5⟩
  go_wp2_with fail
  refine hK.out _ _ ?_ (fun hNew => ?_)
  · exact bnext hHeld b5 (Nat.le_refl _)
  clear hK K hHeld
  have hHeld := hNew
  clear hNew
  try simp only [Act.put, ly]
  refine tk 18 rfl ?_ ?_ ?_
  rotate_left
  · intro w _; go_simp; try with_reducible rfl
  try simp only [Act.put, ly]
  refine tk 19 rfl ?_ ?_ ?_
  rotate_left
  · intro w _; go_simp; try with_reducible rfl
  try simp only [Act.put, ly]
  refine tk 20 rfl ?_ ?_ ?_
  rotate_left
  · intro w _; go_simp; try with_reducible rfl
  try simp only [Act.put, ly]
  refine tk 21 rfl ?_ ?_ ?_
  rotate_left
  · intro w _; go_simp; try with_reducible rfl
  try simp only [Act.put, ly]
  refine tk 22 rfl ?_ ?_ ?_
  rotate_left
  · intro w _; go_simp; try with_reducible rfl
  try simp only [Act.put, ly]
  refine wpAnyH_done (by kernel_rfl) ?_ _
  have HB5 := Lib.hid hHeld
  clear hHeld
  obtain ⟨wl, hwl⟩ : ∃ z, freeF d.times d.runs n0 n1 n2 = z := ⟨_, rfl⟩
  rw [hwl]
  have HXF := Lib.hid (show execF d ws ns = ⟨d, [if wl.1 = true then ⟨#[121, 101, 115]⟩ else ⟨#[110, 111]⟩], wl.2⟩ by rw [HX.out, freeC, HN0.out, HN1.out, HN2.out, hwl])
  clear hwl
  obtain ⟨w1, w2⟩ := wl
  have hz := HB5.out.size
  cases w1
  · go_wp2
    go_ret2
    exact ⟨_, _, _, by rw [HXF.out]; rfl, h, rh, by rw [HXF.out]; exact XI.out.out (HB5.out.alloc hz _) (Sl.one9 hz)⟩
  · go_wp2
    go_ret2
    exact ⟨_, _, _, by rw [HXF.out]; rfl, h, rh, by rw [HXF.out]; exact XI.out.out (HB5.out.alloc hz _) (Sl.one9 hz)⟩
set_option maxHeartbeats 4000000 in
set_option maxRecDepth 100000 in
theorem execSearch_any {w : World} {lo g : Nat} {h : DkH} {d : Dk} {rh : List RnH} {WA NA : Option Addr} {wn nn : Nat} {ws : List ByteArray} {ns : List Int} {m : Int} (wc nc : Nat) (x : ExIn w lo g h d rh WA wn ws NA nn ns m) (h0 : 0 < wn) (hw : ((wordAt ws 0).toList == [115, 101, 97, 114, 99, 104]) = true) (hn : 1 ≤ nn) (hcap : nn ≤ nc) :
    Calls Tryz.prog 36 #[.pointer (some ⟨g, 0, none⟩), .slice WA wn wc, .slice NA nn nc] w fun e w' => ∃ LA ln lc, e = .returned (.tuple #[.slice LA ln lc, .int .i64 (execF d ws ns).code]) ∧ ∃ h' rh', ExOut w w' lo g h' (execF d ws ns).dk rh' LA ln lc (execF d ws ns).lines := by
  have HX := Lib.hid (show execF d ws ns = searchC d ns by unfold execF; rw [if_neg (by rw [notW hw (by decide)]; decide), if_neg (by rw [notW hw (by decide)]; decide), if_neg (by rw [notW hw (by decide)]; decide), if_neg (by rw [notW hw (by decide)]; decide), if_neg (by rw [notW hw (by decide)]; decide), if_neg (by rw [notW hw (by decide)]; decide), if_pos hw])
  have e0 := notW (l' := [110, 101, 116]) hw (by decide)
  have e1 := notW (l' := [119, 97, 121]) hw (by decide)
  have e2 := notW (l' := [116, 105, 109, 101, 115]) hw (by decide)
  have e3 := notW (l' := [114, 117, 110]) hw (by decide)
  have e4 := notW (l' := [114, 117, 110, 115]) hw (by decide)
  have e5 := notW (l' := [102, 114, 101, 101]) hw (by decide)
  have XI := Lib.hid x
  obtain ⟨s, b0, o0, hs0, rfl, hb0, k0⟩ := str_at x.wsr h0
  rw [Nat.add_zero] at k0
  have hsw : wordAt ws 0 = s := by unfold wordAt; rw [List.getD_eq_getElem?_getD, hs0]; rfl
  rw [hsw] at hw e0 e1 e2 e3 e4 e5
  obtain ⟨c0, c1, c2, c3, c4⟩ := cells5 x.blk
  obtain ⟨n0, bn0, on0, hn0, hNA0, _, q0⟩ := int_at x.nsr (k := 0) (by omega)
  subst hNA0
  rw [Nat.add_zero] at q0
  have HN0 := Lib.hid (show numAt ns 0 = n0 by unfold numAt; rw [List.getD_eq_getElem?_getD, hn0]; rfl)
  have hb0_ := x.nsb n0 (List.mem_of_getElem? hn0)
  have hi0 : 0 < nn := by omega
  obtain ⟨TA, hTA⟩ : ∃ z, (if nc = 1 then some (⟨bn0, on0, none⟩ : Addr) else some ⟨bn0, on0 + 1, none⟩) = z := ⟨_, rfl⟩
  have hi9 : (1 : Int) ≤ nn := by omega
  have hSB := (show Reads w w.heap.size 1 TA (nn - 1) (ints (ns.drop 1)) by
    have hl := ints_len x.nsr
    by_cases h1 : nc = 1
    · rw [if_pos h1] at hTA
      refine ⟨by simp [ints]; omega, fun h => by omega⟩
    · rw [if_neg h1] at hTA
      rw [← hTA]
      have hr := x.nsr.sub (i := 1) (m := nn - 1) (by omega)
      rwa [show ((ints ns).drop 1).take (nn - 1) = ints (ns.drop 1) by rw [List.take_of_length_le (by simp [ints]; omega)]; simp [ints]] at hr)
  obtain ⟨tl, htl⟩ : ∃ z, ns.drop 1 = z := ⟨_, rfl⟩
  rw [htl] at hSB
  have HTL := Lib.hid htl
  have HSB := Lib.hid hSB
  clear htl hSB
  clear x hs0 hsw hn0
  go_enter Tryz.func36, Tryz.ntmps36
  go_wp2_with fail
  refine wp_region_held_drew (S := (fun V => Below w.heap.size w V)) (by kernel_rfl) ?_ (fun hHeld => ?_)
  · exact (Below.refl _ _).drew
  refine tk 0 rfl ?_ ?_ ?_
  rotate_left
  · intro w _; go_simp; try with_reducible rfl
  try simp only [Act.put, ly]
  refine tk 1 rfl ?_ ?_ ?_
  rotate_left
  · intro w _; go_simp; try with_reducible rfl
  try simp only [Act.put, ly]
  refine tk 2 rfl ?_ ?_ ?_
  rotate_left
  · intro w _; go_simp; try with_reducible rfl
  try simp only [Act.put, ly]
  refine tk 3 rfl ?_ ?_ ?_
  rotate_left
  · intro w _; go_simp; try with_reducible rfl
  try simp only [Act.put, ly]
  refine tk 4 rfl ?_ ?_ ?_
  rotate_left
  · intro w hSw; (try dsimp only at hSw); (have y0 := cell_on hSw c0); (have y1 := cell_on hSw c1); (have y2 := cell_on hSw c2); (have y3 := cell_on hSw c3); (have y4 := cell_on hSw c4); (try have z0 := cell_on hSw q0); (try have z1 := cell_on hSw q1); (try have z2 := cell_on hSw q2); (try have zk := cell_on hSw k0); go_simp; try with_reducible rfl
  try simp only [Act.put, ly]
  refine wpAnyH_ready (rs := [5]) (by kernel_rfl) (by simp) ?_
  refine AllReadyH.cons rfl (fun K hK => ?_) AllReadyH.nil
  go_simp
  refine (implSearch_any TA (nn - 1) (nc - 1) w.heap.size tl n0 _ (HSB.out.on (Nat.le_refl _) hHeld) hHeld.size (by have := XI.out.nl; omega)).mono ?_
  rintro e w5 ⟨A5, m5, d5, rfl, s5, b5⟩
  have HS5 := Lib.hid s5
  go_wp2_with fail
  refine hK.out _ _ ?_ (fun hNew => ?_)
  · exact bnext hHeld b5 (Nat.le_refl _)
  clear hK K hHeld
  have hHeld := hNew
  clear hNew
  try simp only [Act.put, ly]
  refine tk 6 rfl ?_ ?_ ?_
  rotate_left
  · intro w _; go_simp; try with_reducible rfl
  try simp only [Act.put, ly]
  refine tk 7 rfl ?_ ?_ ?_
  rotate_left
  · intro w _; go_simp; try with_reducible rfl
  try simp only [Act.put, ly]
  refine tk 8 rfl ?_ ?_ ?_
  rotate_left
  · intro w _; go_simp; try with_reducible rfl
  try simp only [Act.put, ly]
  refine tk 9 rfl ?_ ?_ ?_
  rotate_left
  · intro w _; go_simp; try with_reducible rfl
  try simp only [Act.put, ly]
  refine tk 10 rfl ?_ ?_ ?_
  rotate_left
  · intro w _; go_simp; try with_reducible rfl
  try simp only [Act.put, ly]
  refine tk 11 rfl ?_ ?_ ?_
  rotate_left
  · intro w _; go_simp; try with_reducible rfl
  try simp only [Act.put, ly]
  refine tk 12 rfl ?_ ?_ ?_
  rotate_left
  · intro w _; go_simp; try with_reducible rfl
  try simp only [Act.put, ly]
  refine wpAnyH_done (by kernel_rfl) ?_ _
  have HB5 := Lib.hid hHeld
  clear hHeld
  have HWB := Lib.hid (seaC_bd tl n0)
  have HWLN := Lib.hid (seaC_len tl n0)
  obtain ⟨wl, hwl⟩ : ∃ z, seaC tl n0 = z := ⟨_, rfl⟩
  rw [hwl] at HS5 HWB HWLN ⊢
  have HXF := Lib.hid (show execF d ws ns = ⟨d, [asBytes (numLn wl.1), asBytes (itoa wl.2.1)], wl.2.2⟩ by rw [HX.out, searchC, HN0.out, HTL.out, hwl])
  clear hwl
  have hm5 : m5 ≤ 1048576 := by have h1 := ints_len (HS5.out.reads (Nat.le_refl _)); have h2 := HWLN.out; omega
  go_wp2_with fail
  refine (numbersLine_any A5 m5 d5 w5.heap.size wl.1 w5 (HS5.out.reads (Nat.le_refl _)) (Nat.le_refl _) hm5 HWB.out.1 (tabUp XI.out.tab HB5.out)).mono ?_
  rintro e w6 ⟨rfl, b6⟩
  have HB6 := Lib.hid (bnext HB5.out b6 (Nat.le_refl _))
  clear b6
  go_wp2_with fail
  refine (decimal_any wl.2.1 w6 HWB.out.2.1 HWB.out.2.2 (tabUp XI.out.tab HB6.out)).mono ?_
  rintro e w7 ⟨rfl, b7⟩
  have HB7 := Lib.hid (bnext HB6.out b7 (Nat.le_refl _))
  clear b7
  go_wp2
  go_ret2
  have hz := HB7.out.size
  exact ⟨_, _, _, by rw [HXF.out]; rfl, h, rh, by rw [HXF.out]; exact XI.out.out (HB7.out.alloc hz _) (Sl.of_blk (xs := [.string (asBytes (numLn wl.1)), .string (asBytes (itoa wl.2.1))]) (Blk.new _ _ _) hz (by simp) rfl (by decide))⟩
end Go.Proofs.YtjalgpioklcbfaaGreatDoor
