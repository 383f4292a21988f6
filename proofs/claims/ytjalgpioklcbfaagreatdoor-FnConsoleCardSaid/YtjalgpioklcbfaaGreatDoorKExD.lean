/- Commands of the console, as the program carries them out: run. -/
import Derived.Test.YtjalgpioklcbfaaGreatDoorMgConsoleAR
import Derived.Test.YtjalgpioklcbfaaGreatDoorMgConsoleAA
set_option linter.unusedVariables false
set_option linter.unusedSimpArgs false
namespace Go.Proofs.YtjalgpioklcbfaaGreatDoor
open Go.RowKit Go.Lib

theorem earlF_small (ts : List Int) (rs : List Rn) (way : List Int) (a : Int) : i64b (earlF ts rs way a).1 := by
 unfold earlF
 split
 ·unfold i64b; decide
 ·split
  ·unfold i64b; decide
  ·rename_i h1 h2
   split
   ·unfold i64b; decide
   ·rename_i h3
    have hr : okRuns ts rs = true := by simpa using h1
    have hw : (okWay ts way && inR a 0 100000) = true := by simpa using h2
    rw [Bool.and_eq_true] at hw
    have ha := inR_true.1 hw.2
    have he := (earl_is hr hw.1 a).1
    exact i64b_of (by show -1000000000 ≤ earl ts rs way a; omega) (by show earl ts rs way a ≤ 1000000000; omega)
set_option maxHeartbeats 4000000 in
set_option maxRecDepth 100000 in
theorem execRun_any {w : World} {lo g : Nat} {h : DkH} {d : Dk} {rh : List RnH} {WA NA : Option Addr} {wn nn : Nat} {ws : List ByteArray} {ns : List Int} {m : Int} (wc nc : Nat) (x : ExIn w lo g h d rh WA wn ws NA nn ns m) (h0 : 0 < wn) (hw : ((wordAt ws 0).toList == [114, 117, 110]) = true) (hn : 1 ≤ nn) (hcap : nn ≤ nc) :
  Calls Tryz.prog 36 #[.pointer (some ⟨g, 0, none⟩), .slice WA wn wc, .slice NA nn nc] w fun e w' => ∃ LA ln lc, e = .returned (.tuple #[.slice LA ln lc, .int .i64 (execF d ws ns).code]) ∧ ∃ h' rh', ExOut w w' lo g h' (execF d ws ns).dk rh' LA ln lc (execF d ws ns).lines := by
 have HX := Lib.hid (show execF d ws ns = runC d ns by unfold execF; rw [if_neg (by rw [notW hw (by decide)]; decide), if_neg (by rw [notW hw (by decide)]; decide), if_neg (by rw [notW hw (by decide)]; decide), if_pos hw])
 have e0 := notW (l' := [110, 101, 116]) hw (by decide)
 have e1 := notW (l' := [119, 97, 121]) hw (by decide)
 have e2 := notW (l' := [116, 105, 109, 101, 115]) hw (by decide)
 have XI := Lib.hid x
 obtain ⟨s, b0, o0, hs0, rfl, hb0, k0⟩ := str_at x.wsr h0
 rw [Nat.add_zero] at k0
 have hsw : wordAt ws 0 = s := by unfold wordAt; rw [List.getD_eq_getElem?_getD, hs0]; rfl
 rw [hsw] at hw e0 e1 e2
 obtain ⟨c0, c1, c2, c3, c4⟩ := cells5 x.blk
 obtain ⟨n0, bn0, on0, hn0, hNA0, _, q0⟩ := int_at x.nsr (k := 0) (by omega)
 subst hNA0
 rw [Nat.add_zero] at q0
 have HN0 := Lib.hid (show numAt ns 0 = n0 by unfold numAt; rw [List.getD_eq_getElem?_getD, hn0]; rfl)
 have hb0_ := x.nsb n0 (List.mem_of_getElem? hn0)
 have hi0 : 0 < nn := by omega
 obtain ⟨TA, hTA⟩ : ∃ z, (if nc = 1 then some (⟨bn0, on0, none⟩ : Addr) else some ⟨bn0, on0 + 1, none⟩) = z := ⟨_, rfl⟩
 have hi9 : (1 : Int) ≤ nn := by omega
 have hSB := (show Reads w w.heap.size 1 TA (nn - 1) (ints (ns.drop 1)) by
  have hl := ints_len x.nsr
  by_cases h1 : nc = 1
  ·rw [if_pos h1] at hTA
   refine ⟨by simp [ints]; omega, fun h => by omega⟩
  ·rw [if_neg h1] at hTA
   rw [← hTA]
   have hr := x.nsr.sub (i := 1) (m := nn - 1) (by omega)
   rwa [show ((ints ns).drop 1).take (nn - 1) = ints (ns.drop 1) by rw [List.take_of_length_le (by simp [ints]; omega)]; simp [ints]] at hr)
 obtain ⟨tl, htl⟩ : ∃ z, ns.drop 1 = z := ⟨_, rfl⟩
 rw [htl] at hSB
 have HTL := Lib.hid htl
 have HSB := Lib.hid hSB
 clear htl hSB
 clear x hs0 hsw hn0
 go_enter Tryz.func36, Tryz.ntmps36
 go_wp2_with fail
 refine wp_region_held_drew (S := (fun V => Below w.heap.size w V)) (by kernel_rfl) ?_ (fun hHeld => ?_)
 ·exact (Below.refl _ _).drew
 refine tk 0 rfl ?_ ?_ ?_
 rotate_left
 ·intro w _; go_simp; try with_reducible rfl
 try simp only [Act.put, ly]
 refine tk 1 rfl ?_ ?_ ?_
 rotate_left
 ·intro w _; go_simp; try with_reducible rfl
 try simp only [Act.put, ly]
 refine tk 2 rfl ?_ ?_ ?_
 rotate_left
 ·intro w _; go_simp; try with_reducible rfl
 try simp only [Act.put, ly]
 refine tk 3 rfl ?_ ?_ ?_
 rotate_left
 ·intro w hSw; (try dsimp only at hSw); (have y0 := cell_on hSw c0); (have y1 := cell_on hSw c1); (have y2 := cell_on hSw c2); (have y3 := cell_on hSw c3); (have y4 := cell_on hSw c4); (try have z0 := cell_on hSw q0); (try have z1 := cell_on hSw q1); (try have z2 := cell_on hSw q2); (try have zk := cell_on hSw k0); go_simp; try with_reducible rfl
 try simp only [Act.put, ly]
 refine tk 4 rfl ?_ ?_ ?_
 rotate_left
 ·intro w _; go_simp; try with_reducible rfl
 try simp only [Act.put, ly]
 refine tk 5 rfl ?_ ?_ ?_
 rotate_left
 ·intro w _; go_simp; try with_reducible rfl
 try simp only [Act.put, ly]
 refine tk 6 rfl ?_ ?_ ?_
 rotate_left
 ·intro w _; go_simp; try with_reducible rfl
 try simp only [Act.put, ly]
 refine tk 7 rfl ?_ ?_ ?_
 rotate_left
 ·intro w hSw; (try dsimp only at hSw); (have y0 := cell_on hSw c0); (have y1 := cell_on hSw c1); (have y2 := cell_on hSw c2); (have y3 := cell_on hSw c3); (have y4 := cell_on hSw c4); (try have z0 := cell_on hSw q0); (try have z1 := cell_on hSw q1); (try have z2 := cell_on hSw q2); (try have zk := cell_on hSw k0); go_simp; try with_reducible rfl
 try simp only [Act.put, ly]
 refine tk 8 rfl ?_ ?_ ?_
 rotate_left
 ·intro w _; go_simp; try with_reducible rfl
 try simp only [Act.put, ly]
 refine tk 9 rfl ?_ ?_ ?_
 rotate_left
 ·intro w _; go_simp; try with_reducible rfl
 try simp only [Act.put, ly]
 refine tk 10 rfl ?_ ?_ ?_
 rotate_left
 ·intro w _; go_simp; try with_reducible rfl
 try simp only [Act.put, ly]
 refine tk 11 rfl ?_ ?_ ?_
 rotate_left
 ·intro w _; go_simp; try with_reducible rfl
 try simp only [Act.put, ly]
 refine tk 12 rfl ?_ ?_ ?_
 rotate_left
 ·intro w hSw; (try dsimp only at hSw); (have y0 := cell_on hSw c0); (have y1 := cell_on hSw c1); (have y2 := cell_on hSw c2); (have y3 := cell_on hSw c3); (have y4 := cell_on hSw c4); (try have z0 := cell_on hSw q0); (try have z1 := cell_on hSw q1); (try have z2 := cell_on hSw q2); (try have zk := cell_on hSw k0); go_simp; try with_reducible rfl
 try simp only [Act.put, ly]
 refine wpAnyH_ready (rs := [13]) (by kernel_rfl) (by simp) ?_
 refine AllReadyH.cons rfl (fun K hK => ?_) AllReadyH.nil
 go_simp
 refine (implEarliest_any h.A2 h.n2 h.c2 d.times h.A3 h.n3 h.c3 d.runs TA (nn - 1) (nc - 1) w.heap.size tl n0 _ ((XI.out.own.times.reads (Nat.le_refl _)).on (Nat.le_refl _) hHeld) ((XI.out.own.runs.reads (Nat.le_refl _)).on (Nat.le_refl _) hHeld) (HSB.out.on (Nat.le_refl _) hHeld) hHeld.size XI.out.small.n2 XI.out.small.n3 XI.out.small.runs (by have := XI.out.nl; omega)).mono ?_
 rintro e w5 ⟨rfl, b5⟩
 go_wp2_with fail
 refine hK.out _ _ ?_ (fun hNew => ?_)
 ·exact bnext hHeld b5 (Nat.le_refl _)
 clear hK K hHeld
 have hHeld := hNew
 clear hNew
 try simp only [Act.put, ly]
 refine tk 14 rfl ?_ ?_ ?_
 rotate_left
 ·intro w _; go_simp; try with_reducible rfl
 try simp only [Act.put, ly]
 refine tk 15 rfl ?_ ?_ ?_
 rotate_left
 ·intro w _; go_simp; try with_reducible rfl
 try simp only [Act.put, ly]
 refine tk 16 rfl ?_ ?_ ?_
 rotate_left
 ·intro w _; go_simp; try with_reducible rfl
 try simp only [Act.put, ly]
 refine tk 17 rfl ?_ ?_ ?_
 rotate_left
 ·intro w _; go_simp; try with_reducible rfl
 try simp only [Act.put, ly]
 refine tk 18 rfl ?_ ?_ ?_
 rotate_left
 ·intro w _; go_simp; try with_reducible rfl
 try simp only [Act.put, ly]
 refine wpAnyH_done (by kernel_rfl) ?_ _
 have HB5 := Lib.hid hHeld
 clear hHeld
 have HEB := Lib.hid (earlF_small d.times d.runs tl n0)
 obtain ⟨el, hel⟩ : ∃ z, earlF d.times d.runs tl n0 = z := ⟨_, rfl⟩
 rw [hel] at HEB ⊢
 have HX2 := Lib.hid (show execF d ws ns = if el.2 ≠ 0 then ⟨d, [], el.2⟩ else if d.runs.length = 12 then ⟨d, [], 5⟩ else ⟨⟨d.net, d.times, d.runs ++ [⟨tl, el.1⟩], d.log⟩, [asBytes (itoa el.1)], 0⟩ by rw [HX.out, runC, HN0.out, HTL.out, hel])
 clear hel
 obtain ⟨el1, el2⟩ := el
 simp only at HEB HX2
 have HLR := Lib.hid XI.out.own.runs.len
 replace c3 := cell_on HB5.out c3
 clear c0 c1 c2 c4
 by_cases hc : el2 = 0
 rotate_left
 ·have HXF := Lib.hid (show execF d ws ns = ⟨d, [], el2⟩ by rw [HX2.out, if_pos hc])
  have hcc : (el2 == 0) = false := by simpa using hc
  have hcd : (el2 != 0) = true := by simpa using hc
  clear hc
  go_wp2
  go_ret2
  exact ⟨none, 0, 0, by rw [HXF.out]; rfl, h, rh, by rw [HXF.out]; exact XI.out.out HB5.out (Sl.nil _ _ _ _ _)⟩
 subst hc
 by_cases h12 : h.n3 = 12
 ·have HXF := Lib.hid (show execF d ws ns = ⟨d, [], 5⟩ by rw [HX2.out, if_neg (by simp), if_pos (by rw [HLR.out]; exact h12)])
  have hcc : ((h.n3 : Int) == 12) = true := by rw [h12]; rfl
  clear h12
  go_wp2
  go_ret2
  exact ⟨none, 0, 0, by rw [HXF.out]; rfl, h, rh, by rw [HXF.out]; exact XI.out.out HB5.out (Sl.nil _ _ _ _ _)⟩
 have HXF := Lib.hid (show execF d ws ns = ⟨⟨d.net, d.times, d.runs ++ [⟨tl, el1⟩], d.log⟩, [asBytes (itoa el1)], 0⟩ by rw [HX2.out, if_neg (by simp), if_neg (by rw [HLR.out]; exact h12)])
 have hcc : ((h.n3 : Int) == 12) = false := by
  rw [beq_eq_false_iff_ne]; omega
 have HPL := Lib.hid (show PlainA TA by
  intro ad had
  rw [← hTA] at had
  split at had <;> (injection had with had; rw [← had]))
 clear h12
 go_upto_region 22 with fail
 refine wp_region_held_drew (S := (fun _ => True)) (by kernel_rfl) ?_ (fun hHeld => ?_)
 ·trivial
 refine tk 0 rfl ?_ ?_ ?_
 rotate_left
 ·intro w _; go_simp; try with_reducible rfl
 try simp only [Act.put, ly]
 refine tk 1 rfl ?_ ?_ ?_
 rotate_left
 ·intro w _; go_simp; try with_reducible rfl
 try simp only [Act.put, ly]
 refine tk 2 rfl ?_ ?_ ?_
 rotate_left
 ·intro w _; go_simp; try with_reducible rfl
 try simp only [Act.put, ly]
 refine tk 3 rfl ?_ ?_ ?_
 rotate_left
 ·intro w _; go_simp; try with_reducible rfl
 try simp only [Act.put, ly]
 refine tk 5 rfl ?_ ?_ ?_
 rotate_left
 ·intro w _; go_simp; try with_reducible rfl
 try simp only [Act.put, ly]
 refine tk 6 rfl ?_ ?_ ?_
 rotate_left
 ·intro w _; go_simp; try with_reducible rfl
 try simp only [Act.put, ly]
 refine tk 8 rfl ?_ ?_ ?_
 rotate_left
 ·intro w _; go_simp; try with_reducible rfl
 try simp only [Act.put, ly]
 refine wpAnyH_ready (rs := [4, 7]) (by kernel_rfl) (by simp) ?_
 refine AllReadyH.cons rfl (fun K hK => ?_) ?_
 ·skip
  go_simp
  refine hK.out _ _ ?_ (fun hNew => ?_)
  ·trivial
  clear hK K hHeld
  have hHeld := hNew
  clear hNew
  try simp only [Act.put, ly]
  refine wpAnyH_ready (rs := [7]) (by kernel_rfl) (by simp) ?_
  refine AllReadyH.cons rfl (fun K hK => ?_) AllReadyH.nil
  go_simp
  refine (cloneI_any TA (nn - 1) (nc - 1) w.heap.size tl w5.drew HPL.out ((HSB.out.on (Nat.le_refl _) HB5.out).keep fun _ _ => rfl) (by have := XI.out.nl; omega)).mono ?_
  rintro e w6 ⟨A6, d6, rfl, s6, b6⟩
  have b6u := (show Below w5.heap.size w5 w6 from (Below.refl _ _).drew.trans b6)
  have HB6 := Lib.hid (bnext HB5.out b6u (Nat.le_refl _))
  have HS6 := Lib.hid (s6.wide HB5.out.size (Nat.le_refl _))
  replace c3 := cell_on b6u c3
  have HR6 := Lib.hid ((XI.out.own.runs.on HB6.out).low)
  have hz6 : lo ≤ w6.heap.size := by have := XI.out.glo; have := XI.out.blk.lt; have := HB6.out.size; omega
  clear s6 b6 b6u
  go_wp2_with fail
  refine hK.out _ _ ?_ (fun hNew => ?_)
  ·trivial
  clear hK K hHeld
  have hHeld := hNew
  clear hNew
  try simp only [Act.put, ly]
  refine tk 9 rfl ?_ ?_ ?_
  rotate_left
  ·intro w _; go_simp; try with_reducible rfl
  try simp only [Act.put, ly]
  refine wpAnyH_ready (rs := [10]) (by kernel_rfl) (by simp) ?_
  refine AllReadyH.cons rfl (fun K hK => ?_) AllReadyH.nil
  go_simp
  refine hK.out _ _ ?_ (fun hNew => ?_)
  ·trivial
  clear hK K hHeld
  have hHeld := hNew
  clear hNew
  try simp only [Act.put, ly]
  refine wpAnyH_ready (rs := [11]) (by kernel_rfl) (by simp) ?_
  refine AllReadyH.cons rfl (fun K hK => ?_) AllReadyH.nil
  refine step_oneF rfl _ _ 30 rfl 123 _ 2 32 Tryz.underlying30 info_rn9 rfl (by decide) (by decide) HR6.out.row hz6 rfl [.slice A6 (nn - 1) d6, .int .i64 el1] w6.heap.size rfl rfl rfl (rn_one9 A6 (nn - 1) d6 el1) (by have := XI.out.small.n3; omega) ?_
  intro A7 d7 w7 hs7 b7 f7 k7
  have HS7 := Lib.hid hs7
  have HB7 := Lib.hid b7
  have HF7 := Lib.hid f7
  have HK7 := Lib.hid k7
  have Y7 : Blk w7 g 32 #[.int .i64 d.net.sta, .slice h.A1 h.n1 h.c1, .slice h.A2 h.n2 h.c2, .slice h.A3 h.n3 h.c3, .string d.log] := (f7 g (by have := XI.out.blk.lt; have := HB6.out.size; omega) (fun ad had e => XI.out.gne g (.inr (.inr (.inl ⟨ad, had, e⟩))) rfl)).trans (XI.out.blk.on HB6.out)
  clear hs7 b7 f7 k7
  refine hK.out _ _ ?_ (fun hNew => ?_)
  ·trivial
  clear hK K hHeld
  have hHeld := hNew
  clear hNew
  try simp only [Act.put, ly]
  refine tk 12 rfl ?_ ?_ ?_
  rotate_left
  ·intro w _; go_simp; try with_reducible rfl
  try simp only [Act.put, ly]
  refine tk 13 rfl ?_ ?_ ?_
  rotate_left
  ·intro w _; go_simp; try with_reducible rfl
  try simp only [Act.put, ly]
  refine wpAnyH_ready (rs := [14]) (by kernel_rfl) (by simp) ?_
  refine AllReadyH.cons rfl (fun K hK => ?_) AllReadyH.nil
  have f3 := Y7.frozen 3
  have c3z := Y7.cellAt 3 (by simp)
  go_simp
  refine hK.out _ _ ?_ (fun hNew => ?_)
  ·trivial
  clear hK K hHeld
  have hHeld := hNew
  clear hNew
  try simp only [Act.put, ly]
  refine wpAnyH_done (by kernel_rfl) ?_ _
  have ho7 := off_of HB7.out HF7.out
  have y8 := Y7.set_ 3 (.slice A7 (h.n3 + 1) d7)
  obtain ⟨u, hu⟩ : ∃ y, w7.setCell ⟨g, 3, none⟩ (.slice A7 (h.n3 + 1) d7) = y := ⟨_, rfl⟩
  have ho : Only g (g + 1) w7 u := by rw [← hu]; exact (Only.refl g (g + 1) w7).setCell (p := ⟨g, 3, none⟩) (Nat.le_refl _) (Nat.lt_succ_self _) _
  have yu : Blk u g 32 #[.int .i64 d.net.sta, .slice h.A1 h.n1 h.c1, .slice h.A2 h.n2 h.c2, .slice A7 (h.n3 + 1) d7, .string d.log] := by rw [← hu]; simpa using y8
  rw [hu]
  have hgw := XI.out.blk.lt
  have hgl := XI.out.glo
  have hgo : ∀ b, inD h rh b → b ≠ g := XI.out.gne
  have og : Off (fun b => b = g) w7 u := ⟨ho.os, ho.tape, ho.output, ho.size, fun k hk hn => ho.block k hk (by omega)⟩
  have HO6 := XI.out.own.on HB6.out
  have t1 := (HO6.tubes.off ho7 (fun b hb hc => HO6.n1r b hb (.inl hc))).off og (fun b hb => hgo b (.inl hb))
  have t2 := (HO6.times.off ho7 (fun b hb hc => HO6.n2r b hb (.inl hc))).off og (fun b hb => hgo b (.inr (.inl hb)))
  have r7 := OwnR.snoc (r := ⟨tl, el1⟩) HO6.runs HB6.out.size (by omega) HS6.out (by have := XI.out.nl; omega) HS7.out (HB7.out) HF7.out HK7.out
  have hA7g : ∀ b, inRn A7 (rh ++ [⟨A6, nn - 1, d6, el1⟩]) b → b ≠ g := fun b hb e => by
   rcases hb with hb | ⟨i, y, hy, hb⟩
   ·obtain ⟨ad, e1, e2⟩ := hb
    exact HK7.out g (by have := HB6.out.size; omega) (fun ad' e' hh' => hgo g (.inr (.inr (.inl ⟨ad', e', hh'⟩))) rfl) ad e1 (e2.trans e)
   ·rw [List.getElem?_append] at hy
    split at hy
    ·exact hgo b (.inr (.inr (.inr ⟨i, y, hy, hb⟩))) e
    ·rename_i hi
     have : i - rh.length = 0 := by
      by_cases e : i - rh.length = 0
      ·exact e
      ·rw [List.getElem?_eq_none (by simp; omega)] at hy; cases hy
     rw [this] at hy
     simp at hy
     subst hy
     have := (HS6.out.inB_lt hb).1
     omega
  have r8 := r7.off og hA7g
  have bu : Below lo w u := ((HB6.out.mono (by omega)).trans HB7.out).trans (ho.below (by omega) (by have := HB6.out.size; have := HB7.out.size; omega))
  have hold : ∀ b, inRn A7 (rh ++ [⟨A6, nn - 1, d6, el1⟩]) b → b < w.heap.size → inRn h.A3 rh b := fun b hb hlt => by
   rcases hb with hb | ⟨i, y, hy, hb⟩
   ·by_cases hc : inB h.A3 b
    ·exact .inl hc
    ·obtain ⟨ad, e1, e2⟩ := hb
     exact absurd e2 (HK7.out b (by have := HB6.out.size; omega) (fun ad' e' hh' => hc ⟨ad', e', hh'⟩) ad e1)
   ·rw [List.getElem?_append] at hy
    split at hy
    ·exact .inr ⟨i, y, hy, hb⟩
    ·rename_i hi
     have : i - rh.length = 0 := by
      by_cases e : i - rh.length = 0
      ·exact e
      ·rw [List.getElem?_eq_none (by simp; omega)] at hy; cases hy
     rw [this] at hy
     simp at hy
     subst hy
     have := (HS6.out.inB_lt hb).1
     omega
  have hown : OwnD u lo u.heap.size ⟨h.A1, h.n1, h.c1, h.A2, h.n2, h.c2, A7, h.n3 + 1, d7⟩ ⟨d.net, d.times, d.runs ++ [⟨tl, el1⟩], d.log⟩ (rh ++ [⟨A6, nn - 1, d6, el1⟩]) :=
   ⟨t1.low, t2.low, r8.low, HO6.n12, fun b hb hc => HO6.n1r b hb (hold b hc (HO6.tubes.inB_lt hb).2), fun b hb hc => HO6.n2r b hb (hold b hc (HO6.times.inB_lt hb).2)⟩
  have hgn : ∀ b, inD ⟨h.A1, h.n1, h.c1, h.A2, h.n2, h.c2, A7, h.n3 + 1, d7⟩ (rh ++ [⟨A6, nn - 1, d6, el1⟩]) b → b ≠ g := fun b hb => by
   rcases hb with hb | hb | hb
   ·exact hgo b (.inl hb)
   ·exact hgo b (.inr (.inl hb))
   ·exact hA7g b hb
  have HYU := Lib.hid yu
  have HON := Lib.hid hown
  have HBU := Lib.hid bu
  have HGN := Lib.hid hgn
  clear hHeld c3 Y7 f3 ho7 y8 hu ho yu hgw hgl hgo og HO6 t1 t2 r7 hA7g r8 bu hold hown hgn
  go_wp2_with fail
  refine (decimal_any el1 u HEB.out.1 HEB.out.2 (tabUpB XI.out.tab XI.out.low HBU.out)).mono ?_
  rintro e w8 ⟨rfl, b8⟩
  have HB8 := Lib.hid b8
  clear b8
  go_wp2
  go_ret2
  have hz := HB8.out.size
  have b9 := HB8.out.alloc hz (.cells #[.string (asBytes (itoa el1))] 9)
  have hgw := HYU.out.lt
  have hgl := XI.out.glo
  have s9 := Sl.one9 (W := w8) (s := asBytes (itoa el1)) hz
  refine ⟨_, _, _, by rw [HXF.out]; rfl, ⟨h.A1, h.n1, h.c1, h.A2, h.n2, h.c2, A7, h.n3 + 1, d7⟩, rh ++ [⟨A6, nn - 1, d6, el1⟩], ?_⟩
  rw [HXF.out]
  refine ⟨HYU.out.on b9, (HON.out.on b9).wide (Nat.le_refl _) b9.size, HGN.out, s9.wide (by omega) (Nat.le_refl _), fun b hb hd => ?_, fun b hb e => ?_, HBU.out.trans (b9.mono (by omega))⟩
  ·have := s9.inB_lt hb; have := HON.out.inD_lt hd; omega
  ·have := s9.inB_lt hb; omega
 refine AllReadyH.cons rfl (fun K hK => ?_) ?_
 ·skip
  go_simp
  refine (cloneI_any TA (nn - 1) (nc - 1) w.heap.size tl w5.drew HPL.out ((HSB.out.on (Nat.le_refl _) HB5.out).keep fun _ _ => rfl) (by have := XI.out.nl; omega)).mono ?_
  rintro e w6 ⟨A6, d6, rfl, s6, b6⟩
  have b6u := (show Below w5.heap.size w5 w6 from (Below.refl _ _).drew.trans b6)
  have HB6 := Lib.hid (bnext HB5.out b6u (Nat.le_refl _))
  have HS6 := Lib.hid (s6.wide HB5.out.size (Nat.le_refl _))
  replace c3 := cell_on b6u c3
  have HR6 := Lib.hid ((XI.out.own.runs.on HB6.out).low)
  have hz6 : lo ≤ w6.heap.size := by have := XI.out.glo; have := XI.out.blk.lt; have := HB6.out.size; omega
  clear s6 b6 b6u
  go_wp2_with fail
  refine hK.out _ _ ?_ (fun hNew => ?_)
  ·trivial
  clear hK K hHeld
  have hHeld := hNew
  clear hNew
  try simp only [Act.put, ly]
  refine tk 9 rfl ?_ ?_ ?_
  rotate_left
  ·intro w _; go_simp; try with_reducible rfl
  try simp only [Act.put, ly]
  refine wpAnyH_ready (rs := [4, 10]) (by kernel_rfl) (by simp) ?_
  refine AllReadyH.cons rfl (fun K hK => ?_) ?_
  ·skip
   go_simp
   refine hK.out _ _ ?_ (fun hNew => ?_)
   ·trivial
   clear hK K hHeld
   have hHeld := hNew
   clear hNew
   try simp only [Act.put, ly]
   refine wpAnyH_ready (rs := [10]) (by kernel_rfl) (by simp) ?_
   refine AllReadyH.cons rfl (fun K hK => ?_) AllReadyH.nil
   go_simp
   refine hK.out _ _ ?_ (fun hNew => ?_)
   ·trivial
   clear hK K hHeld
   have hHeld := hNew
   clear hNew
   try simp only [Act.put, ly]
   refine wpAnyH_ready (rs := [11]) (by kernel_rfl) (by simp) ?_
   refine AllReadyH.cons rfl (fun K hK => ?_) AllReadyH.nil
   refine step_oneF rfl _ _ 30 rfl 123 _ 2 32 Tryz.underlying30 info_rn9 rfl (by decide) (by decide) HR6.out.row hz6 rfl [.slice A6 (nn - 1) d6, .int .i64 el1] w6.heap.size rfl rfl rfl (rn_one9 A6 (nn - 1) d6 el1) (by have := XI.out.small.n3; omega) ?_
   intro A7 d7 w7 hs7 b7 f7 k7
   have HS7 := Lib.hid hs7
   have HB7 := Lib.hid b7
   have HF7 := Lib.hid f7
   have HK7 := Lib.hid k7
   have Y7 : Blk w7 g 32 #[.int .i64 d.net.sta, .slice h.A1 h.n1 h.c1, .slice h.A2 h.n2 h.c2, .slice h.A3 h.n3 h.c3, .string d.log] := (f7 g (by have := XI.out.blk.lt; have := HB6.out.size; omega) (fun ad had e => XI.out.gne g (.inr (.inr (.inl ⟨ad, had, e⟩))) rfl)).trans (XI.out.blk.on HB6.out)
   clear hs7 b7 f7 k7
   refine hK.out _ _ ?_ (fun hNew => ?_)
   ·trivial
   clear hK K hHeld
   have hHeld := hNew
   clear hNew
   try simp only [Act.put, ly]
   refine tk 12 rfl ?_ ?_ ?_
   rotate_left
   ·intro w _; go_simp; try with_reducible rfl
   try simp only [Act.put, ly]
   refine tk 13 rfl ?_ ?_ ?_
   rotate_left
   ·intro w _; go_simp; try with_reducible rfl
   try simp only [Act.put, ly]
   refine wpAnyH_ready (rs := [14]) (by kernel_rfl) (by simp) ?_
   refine AllReadyH.cons rfl (fun K hK => ?_) AllReadyH.nil
   have f3 := Y7.frozen 3
   have c3z := Y7.cellAt 3 (by simp)
   go_simp
   refine hK.out _ _ ?_ (fun hNew => ?_)
   ·trivial
   clear hK K hHeld
   have hHeld := hNew
   clear hNew
   try simp only [Act.put, ly]
   refine wpAnyH_done (by kernel_rfl) ?_ _
   have ho7 := off_of HB7.out HF7.out
   have y8 := Y7.set_ 3 (.slice A7 (h.n3 + 1) d7)
   obtain ⟨u, hu⟩ : ∃ y, w7.setCell ⟨g, 3, none⟩ (.slice A7 (h.n3 + 1) d7) = y := ⟨_, rfl⟩
   have ho : Only g (g + 1) w7 u := by rw [← hu]; exact (Only.refl g (g + 1) w7).setCell (p := ⟨g, 3, none⟩) (Nat.le_refl _) (Nat.lt_succ_self _) _
   have yu : Blk u g 32 #[.int .i64 d.net.sta, .slice h.A1 h.n1 h.c1, .slice h.A2 h.n2 h.c2, .slice A7 (h.n3 + 1) d7, .string d.log] := by rw [← hu]; simpa using y8
   rw [hu]
   have hgw := XI.out.blk.lt
   have hgl := XI.out.glo
   have hgo : ∀ b, inD h rh b → b ≠ g := XI.out.gne
   have og : Off (fun b => b = g) w7 u := ⟨ho.os, ho.tape, ho.output, ho.size, fun k hk hn => ho.block k hk (by omega)⟩
   have HO6 := XI.out.own.on HB6.out
   have t1 := (HO6.tubes.off ho7 (fun b hb hc => HO6.n1r b hb (.inl hc))).off og (fun b hb => hgo b (.inl hb))
   have t2 := (HO6.times.off ho7 (fun b hb hc => HO6.n2r b hb (.inl hc))).off og (fun b hb => hgo b (.inr (.inl hb)))
   have r7 := OwnR.snoc (r := ⟨tl, el1⟩) HO6.runs HB6.out.size (by omega) HS6.out (by have := XI.out.nl; omega) HS7.out (HB7.out) HF7.out HK7.out
   have hA7g : ∀ b, inRn A7 (rh ++ [⟨A6, nn - 1, d6, el1⟩]) b → b ≠ g := fun b hb e => by
    rcases hb with hb | ⟨i, y, hy, hb⟩
    ·obtain ⟨ad, e1, e2⟩ := hb
     exact HK7.out g (by have := HB6.out.size; omega) (fun ad' e' hh' => hgo g (.inr (.inr (.inl ⟨ad', e', hh'⟩))) rfl) ad e1 (e2.trans e)
    ·rw [List.getElem?_append] at hy
     split at hy
     ·exact hgo b (.inr (.inr (.inr ⟨i, y, hy, hb⟩))) e
     ·rename_i hi
      have : i - rh.length = 0 := by
       by_cases e : i - rh.length = 0
       ·exact e
       ·rw [List.getElem?_eq_none (by simp; omega)] at hy; cases hy
      rw [this] at hy
      simp at hy
      subst hy
      have := (HS6.out.inB_lt hb).1
      omega
   have r8 := r7.off og hA7g
   have bu : Below lo w u := ((HB6.out.mono (by omega)).trans HB7.out).trans (ho.below (by omega) (by have := HB6.out.size; have := HB7.out.size; omega))
   have hold : ∀ b, inRn A7 (rh ++ [⟨A6, nn - 1, d6, el1⟩]) b → b < w.heap.size → inRn h.A3 rh b := fun b hb hlt => by
    rcases hb with hb | ⟨i, y, hy, hb⟩
    ·by_cases hc : inB h.A3 b
     ·exact .inl hc
     ·obtain ⟨ad, e1, e2⟩ := hb
      exact absurd e2 (HK7.out b (by have := HB6.out.size; omega) (fun ad' e' hh' => hc ⟨ad', e', hh'⟩) ad e1)
    ·rw [List.getElem?_append] at hy
     split at hy
     ·exact .inr ⟨i, y, hy, hb⟩
     ·rename_i hi
      have : i - rh.length = 0 := by
       by_cases e : i - rh.length = 0
       ·exact e
       ·rw [List.getElem?_eq_none (by simp; omega)] at hy; cases hy
      rw [this] at hy
      simp at hy
      subst hy
      have := (HS6.out.inB_lt hb).1
      omega
   have hown : OwnD u lo u.heap.size ⟨h.A1, h.n1, h.c1, h.A2, h.n2, h.c2, A7, h.n3 + 1, d7⟩ ⟨d.net, d.times, d.runs ++ [⟨tl, el1⟩], d.log⟩ (rh ++ [⟨A6, nn - 1, d6, el1⟩]) :=
    ⟨t1.low, t2.low, r8.low, HO6.n12, fun b hb hc => HO6.n1r b hb (hold b hc (HO6.tubes.inB_lt hb).2), fun b hb hc => HO6.n2r b hb (hold b hc (HO6.times.inB_lt hb).2)⟩
   have hgn : ∀ b, inD ⟨h.A1, h.n1, h.c1, h.A2, h.n2, h.c2, A7, h.n3 + 1, d7⟩ (rh ++ [⟨A6, nn - 1, d6, el1⟩]) b → b ≠ g := fun b hb => by
    rcases hb with hb | hb | hb
    ·exact hgo b (.inl hb)
    ·exact hgo b (.inr (.inl hb))
    ·exact hA7g b hb
   have HYU := Lib.hid yu
   have HON := Lib.hid hown
   have HBU := Lib.hid bu
   have HGN := Lib.hid hgn
   clear hHeld c3 Y7 f3 ho7 y8 hu ho yu hgw hgl hgo og HO6 t1 t2 r7 hA7g r8 bu hold hown hgn
   go_wp2_with fail
   refine (decimal_any el1 u HEB.out.1 HEB.out.2 (tabUpB XI.out.tab XI.out.low HBU.out)).mono ?_
   rintro e w8 ⟨rfl, b8⟩
   have HB8 := Lib.hid b8
   clear b8
   go_wp2
   go_ret2
   have hz := HB8.out.size
   have b9 := HB8.out.alloc hz (.cells #[.string (asBytes (itoa el1))] 9)
   have hgw := HYU.out.lt
   have hgl := XI.out.glo
   have s9 := Sl.one9 (W := w8) (s := asBytes (itoa el1)) hz
   refine ⟨_, _, _, by rw [HXF.out]; rfl, ⟨h.A1, h.n1, h.c1, h.A2, h.n2, h.c2, A7, h.n3 + 1, d7⟩, rh ++ [⟨A6, nn - 1, d6, el1⟩], ?_⟩
   rw [HXF.out]
   refine ⟨HYU.out.on b9, (HON.out.on b9).wide (Nat.le_refl _) b9.size, HGN.out, s9.wide (by omega) (Nat.le_refl _), fun b hb hd => ?_, fun b hb e => ?_, HBU.out.trans (b9.mono (by omega))⟩
   ·have := s9.inB_lt hb; have := HON.out.inD_lt hd; omega
   ·have := s9.inB_lt hb; omega
  refine AllReadyH.cons rfl (fun K hK => ?_) ?_
  ·skip
   go_simp
   refine hK.out _ _ ?_ (fun hNew => ?_)
   ·trivial
   clear hK K hHeld
   have hHeld := hNew
   clear hNew
   try simp only [Act.put, ly]
   refine wpAnyH_ready (rs := [4]) (by kernel_rfl) (by simp) ?_
   refine AllReadyH.cons rfl (fun K hK => ?_) AllReadyH.nil
   have c3b := cell_on ((Below.refl w6.heap.size w6).alloc (Nat.le_refl _) (.cells #[.slice A6 (nn - 1) d6, .int .i64 el1] 123)) c3
   have hgl9 := World.block_lt_of_cell? _ _ c3
   go_simp
   refine hK.out _ _ ?_ (fun hNew => ?_)
   ·trivial
   clear hK K hHeld
   have hHeld := hNew
   clear hNew
   try simp only [Act.put, ly]
   refine wpAnyH_ready (rs := [11]) (by kernel_rfl) (by simp) ?_
   refine AllReadyH.cons rfl (fun K hK => ?_) AllReadyH.nil
   refine step_oneF rfl _ _ 30 rfl 123 _ 2 32 Tryz.underlying30 info_rn9 rfl (by decide) (by decide) HR6.out.row hz6 rfl [.slice A6 (nn - 1) d6, .int .i64 el1] w6.heap.size rfl rfl rfl (rn_one9 A6 (nn - 1) d6 el1) (by have := XI.out.small.n3; omega) ?_
   intro A7 d7 w7 hs7 b7 f7 k7
   have HS7 := Lib.hid hs7
   have HB7 := Lib.hid b7
   have HF7 := Lib.hid f7
   have HK7 := Lib.hid k7
   have Y7 : Blk w7 g 32 #[.int .i64 d.net.sta, .slice h.A1 h.n1 h.c1, .slice h.A2 h.n2 h.c2, .slice h.A3 h.n3 h.c3, .string d.log] := (f7 g (by have := XI.out.blk.lt; have := HB6.out.size; omega) (fun ad had e => XI.out.gne g (.inr (.inr (.inl ⟨ad, had, e⟩))) rfl)).trans (XI.out.blk.on HB6.out)
   clear hs7 b7 f7 k7
   refine hK.out _ _ ?_ (fun hNew => ?_)
   ·trivial
   clear hK K hHeld
   have hHeld := hNew
   clear hNew
   try simp only [Act.put, ly]
   refine tk 12 rfl ?_ ?_ ?_
   rotate_left
   ·intro w _; go_simp; try with_reducible rfl
   try simp only [Act.put, ly]
   refine tk 13 rfl ?_ ?_ ?_
   rotate_left
   ·intro w _; go_simp; try with_reducible rfl
   try simp only [Act.put, ly]
   refine wpAnyH_ready (rs := [14]) (by kernel_rfl) (by simp) ?_
   refine AllReadyH.cons rfl (fun K hK => ?_) AllReadyH.nil
   have f3 := Y7.frozen 3
   have c3z := Y7.cellAt 3 (by simp)
   go_simp
   refine hK.out _ _ ?_ (fun hNew => ?_)
   ·trivial
   clear hK K hHeld
   have hHeld := hNew
   clear hNew
   try simp only [Act.put, ly]
   refine wpAnyH_done (by kernel_rfl) ?_ _
   have ho7 := off_of HB7.out HF7.out
   have y8 := Y7.set_ 3 (.slice A7 (h.n3 + 1) d7)
   obtain ⟨u, hu⟩ : ∃ y, w7.setCell ⟨g, 3, none⟩ (.slice A7 (h.n3 + 1) d7) = y := ⟨_, rfl⟩
   have ho : Only g (g + 1) w7 u := by rw [← hu]; exact (Only.refl g (g + 1) w7).setCell (p := ⟨g, 3, none⟩) (Nat.le_refl _) (Nat.lt_succ_self _) _
   have yu : Blk u g 32 #[.int .i64 d.net.sta, .slice h.A1 h.n1 h.c1, .slice h.A2 h.n2 h.c2, .slice A7 (h.n3 + 1) d7, .string d.log] := by rw [← hu]; simpa using y8
   rw [hu]
   have hgw := XI.out.blk.lt
   have hgl := XI.out.glo
   have hgo : ∀ b, inD h rh b → b ≠ g := XI.out.gne
   have og : Off (fun b => b = g) w7 u := ⟨ho.os, ho.tape, ho.output, ho.size, fun k hk hn => ho.block k hk (by omega)⟩
   have HO6 := XI.out.own.on HB6.out
   have t1 := (HO6.tubes.off ho7 (fun b hb hc => HO6.n1r b hb (.inl hc))).off og (fun b hb => hgo b (.inl hb))
   have t2 := (HO6.times.off ho7 (fun b hb hc => HO6.n2r b hb (.inl hc))).off og (fun b hb => hgo b (.inr (.inl hb)))
   have r7 := OwnR.snoc (r := ⟨tl, el1⟩) HO6.runs HB6.out.size (by omega) HS6.out (by have := XI.out.nl; omega) HS7.out (HB7.out) HF7.out HK7.out
   have hA7g : ∀ b, inRn A7 (rh ++ [⟨A6, nn - 1, d6, el1⟩]) b → b ≠ g := fun b hb e => by
    rcases hb with hb | ⟨i, y, hy, hb⟩
    ·obtain ⟨ad, e1, e2⟩ := hb
     exact HK7.out g (by have := HB6.out.size; omega) (fun ad' e' hh' => hgo g (.inr (.inr (.inl ⟨ad', e', hh'⟩))) rfl) ad e1 (e2.trans e)
    ·rw [List.getElem?_append] at hy
     split at hy
     ·exact hgo b (.inr (.inr (.inr ⟨i, y, hy, hb⟩))) e
     ·rename_i hi
      have : i - rh.length = 0 := by
       by_cases e : i - rh.length = 0
       ·exact e
       ·rw [List.getElem?_eq_none (by simp; omega)] at hy; cases hy
      rw [this] at hy
      simp at hy
      subst hy
      have := (HS6.out.inB_lt hb).1
      omega
   have r8 := r7.off og hA7g
   have bu : Below lo w u := ((HB6.out.mono (by omega)).trans HB7.out).trans (ho.below (by omega) (by have := HB6.out.size; have := HB7.out.size; omega))
   have hold : ∀ b, inRn A7 (rh ++ [⟨A6, nn - 1, d6, el1⟩]) b → b < w.heap.size → inRn h.A3 rh b := fun b hb hlt => by
    rcases hb with hb | ⟨i, y, hy, hb⟩
    ·by_cases hc : inB h.A3 b
     ·exact .inl hc
     ·obtain ⟨ad, e1, e2⟩ := hb
      exact absurd e2 (HK7.out b (by have := HB6.out.size; omega) (fun ad' e' hh' => hc ⟨ad', e', hh'⟩) ad e1)
    ·rw [List.getElem?_append] at hy
     split at hy
     ·exact .inr ⟨i, y, hy, hb⟩
     ·rename_i hi
      have : i - rh.length = 0 := by
       by_cases e : i - rh.length = 0
       ·exact e
       ·rw [List.getElem?_eq_none (by simp; omega)] at hy; cases hy
      rw [this] at hy
      simp at hy
      subst hy
      have := (HS6.out.inB_lt hb).1
      omega
   have hown : OwnD u lo u.heap.size ⟨h.A1, h.n1, h.c1, h.A2, h.n2, h.c2, A7, h.n3 + 1, d7⟩ ⟨d.net, d.times, d.runs ++ [⟨tl, el1⟩], d.log⟩ (rh ++ [⟨A6, nn - 1, d6, el1⟩]) :=
    ⟨t1.low, t2.low, r8.low, HO6.n12, fun b hb hc => HO6.n1r b hb (hold b hc (HO6.tubes.inB_lt hb).2), fun b hb hc => HO6.n2r b hb (hold b hc (HO6.times.inB_lt hb).2)⟩
   have hgn : ∀ b, inD ⟨h.A1, h.n1, h.c1, h.A2, h.n2, h.c2, A7, h.n3 + 1, d7⟩ (rh ++ [⟨A6, nn - 1, d6, el1⟩]) b → b ≠ g := fun b hb => by
    rcases hb with hb | hb | hb
    ·exact hgo b (.inl hb)
    ·exact hgo b (.inr (.inl hb))
    ·exact hA7g b hb
   have HYU := Lib.hid yu
   have HON := Lib.hid hown
   have HBU := Lib.hid bu
   have HGN := Lib.hid hgn
   clear hHeld c3 Y7 f3 ho7 y8 hu ho yu hgw hgl hgo og HO6 t1 t2 r7 hA7g r8 bu hold hown hgn
   go_wp2_with fail
   refine (decimal_any el1 u HEB.out.1 HEB.out.2 (tabUpB XI.out.tab XI.out.low HBU.out)).mono ?_
   rintro e w8 ⟨rfl, b8⟩
   have HB8 := Lib.hid b8
   clear b8
   go_wp2
   go_ret2
   have hz := HB8.out.size
   have b9 := HB8.out.alloc hz (.cells #[.string (asBytes (itoa el1))] 9)
   have hgw := HYU.out.lt
   have hgl := XI.out.glo
   have s9 := Sl.one9 (W := w8) (s := asBytes (itoa el1)) hz
   refine ⟨_, _, _, by rw [HXF.out]; rfl, ⟨h.A1, h.n1, h.c1, h.A2, h.n2, h.c2, A7, h.n3 + 1, d7⟩, rh ++ [⟨A6, nn - 1, d6, el1⟩], ?_⟩
   rw [HXF.out]
   refine ⟨HYU.out.on b9, (HON.out.on b9).wide (Nat.le_refl _) b9.size, HGN.out, s9.wide (by omega) (Nat.le_refl _), fun b hb hd => ?_, fun b hb e => ?_, HBU.out.trans (b9.mono (by omega))⟩
   ·have := s9.inB_lt hb; have := HON.out.inD_lt hd; omega
   ·have := s9.inB_lt hb; omega
  exact AllReadyH.nil
 exact AllReadyH.nil
end Go.Proofs.YtjalgpioklcbfaaGreatDoor
