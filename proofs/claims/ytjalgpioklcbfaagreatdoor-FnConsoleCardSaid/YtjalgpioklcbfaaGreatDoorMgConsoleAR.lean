/- Commands of the console, as the program carries them out: times. Commands of the console, as the program carries them out: net. -/
import Derived.Test.YtjalgpioklcbfaaGreatDoorKExA
import Derived.Test.YtjalgpioklcbfaaGreatDoorMgConsoleAA
set_option linter.unusedVariables false
set_option linter.unusedSimpArgs false
namespace Go.Proofs.YtjalgpioklcbfaaGreatDoor
open Go.RowKit Go.Lib

theorem OwnD.newTimes {u : World} {lo hi : Nat} {h : DkH} {d : Dk} {rh : List RnH} {A5 : Option Addr} {n5 d5 : Nat} {ts : List Int} (k : OwnD u lo hi h d rh) (s : Sl u hi u.heap.size 2 1 A5 n5 d5 (ints ts)) (hl : lo ≤ hi) (hh : hi ≤ u.heap.size) :
    OwnD u lo u.heap.size ⟨h.A1, h.n1, h.c1, A5, n5, d5, none, 0, 0⟩ ⟨d.net, ts, [], d.log⟩ [] := by
  refine ⟨k.tubes.wide (Nat.le_refl _) hh, s.wide hl (Nat.le_refl _), OwnR.nil _ _ _, fun b hb hc => ?_, fun b hb hc => ?_, fun b hb hc => ?_⟩
  · have := k.tubes.inB_lt hb; have := s.inB_lt hc; omega
  · rcases hc with hc | ⟨i, y, hy, _⟩
    · exact inB_nil hc
    · simp at hy
  · rcases hc with hc | ⟨i, y, hy, _⟩
    · exact inB_nil hc
    · simp at hy
theorem okTimes_len {ts : List Int} (h : okTimes ts = true) : 1 ≤ ts.length ∧ ts.length ≤ 24 := by
  unfold okTimes at h
  rw [Bool.and_eq_true] at h
  have := inR_true.1 h.1
  omega
set_option maxHeartbeats 4000000 in
set_option maxRecDepth 100000 in
theorem execTimes_any {w : World} {lo g : Nat} {h : DkH} {d : Dk} {rh : List RnH} {WA NA : Option Addr} {wn nn : Nat} {ws : List ByteArray} {ns : List Int} {m : Int} (wc nc : Nat) (x : ExIn w lo g h d rh WA wn ws NA nn ns m) (h0 : 0 < wn) (hw : ((wordAt ws 0).toList == [116, 105, 109, 101, 115]) = true) :
    Calls Tryz.prog 36 #[.pointer (some ⟨g, 0, none⟩), .slice WA wn wc, .slice NA nn nc] w fun e w' => ∃ LA ln lc, e = .returned (.tuple #[.slice LA ln lc, .int .i64 (execF d ws ns).code]) ∧ ∃ h' rh', ExOut w w' lo g h' (execF d ws ns).dk rh' LA ln lc (execF d ws ns).lines := by
  have HX := Lib.hid (show execF d ws ns = timesC d ns by unfold execF; rw [if_neg (by rw [notW hw (by decide)]; decide), if_neg (by rw [notW hw (by decide)]; decide), if_pos hw])
  have e0 := notW (l' := [110, 101, 116]) hw (by decide)
  have e1 := notW (l' := [119, 97, 121]) hw (by decide)
  have XI := Lib.hid x
  obtain ⟨s, b0, o0, hs0, rfl, hb0, k0⟩ := str_at x.wsr h0
  rw [Nat.add_zero] at k0
  have hsw : wordAt ws 0 = s := by unfold wordAt; rw [List.getD_eq_getElem?_getD, hs0]; rfl
  rw [hsw] at hw e0 e1
  obtain ⟨c0, c1, c2, c3, c4⟩ := cells5 x.blk
  clear x hs0 hsw
  go_enter Tryz.func36, Tryz.ntmps36
  go_wp2_with fail
  refine (validTimes_any NA nn nc w.heap.size ns w XI.out.nsr (Nat.le_refl _) XI.out.nl).mono ?_
  rintro e w1 ⟨rfl, b1⟩
  have HB1 := Lib.hid b1
  clear b1
  rcases ho : okTimes ns with _ | _
  · have HXF := Lib.hid (show execF d ws ns = ⟨d, [], 1⟩ by rw [HX.out, timesC, if_pos ho])
    go_wp2
    go_ret2
    exact ⟨none, 0, 0, by rw [HXF.out]; rfl, h, rh, by rw [HXF.out]; exact XI.out.out HB1.out (Sl.nil _ _ _ _ _)⟩
  have HXF := Lib.hid (show execF d ws ns = ⟨⟨d.net, ns, [], d.log⟩, [textDk ⟨d.net, ns, [], d.log⟩], 0⟩ by rw [HX.out, timesC, if_neg (by rw [ho]; decide)])
  have hnl := okTimes_len ho
  have hnn := ints_len XI.out.nsr
  obtain ⟨y0, b2, o2, _, rfl, _, _⟩ := int_at XI.out.nsr (k := 0) (by omega)
  have HPL := Lib.hid (show PlainA (some (⟨b2, o2, none⟩ : Addr)) from fun ad had => by injection had with had; rw [← had])
  have hnn2 : nn ≤ 24 := by omega
  clear ho hnl hnn
  go_wp2_with fail
  refine (cloneI_any _ nn nc w.heap.size ns w1 HPL.out (XI.out.nsr.on (Nat.le_refl _) HB1.out) XI.out.nl).mono ?_
  rintro e w2 ⟨A5, d5, rfl, s5, b5⟩
  have HB2 := Lib.hid (bnext HB1.out b5 (Nat.le_refl _))
  have HS5 := Lib.hid (s5.wide HB1.out.size (Nat.le_refl _))
  clear b5 s5
  have Y2 := XI.out.blk.on HB2.out
  have f2 := Y2.frozen 2
  have f3 := Y2.frozen 3
  replace c2 := cell_on HB2.out c2
  replace c3 := cell_on HB2.out c3
  have HY2 := Lib.hid Y2
  clear Y2 c0 c1 c4
  go_upto_region 15 with fail
  obtain ⟨u, hu⟩ : ∃ y, (w2.setCell ⟨g, 2, none⟩ (.slice A5 nn d5)).setCell ⟨g, 3, none⟩ (.slice none 0 0) = y := ⟨_, rfl⟩
  have yu : Blk u g 32 #[.int .i64 d.net.sta, .slice h.A1 h.n1 h.c1, .slice A5 nn d5, .slice none 0 0, .string d.log] := by
    rw [← hu]
    have := (HY2.out.set_ 2 (.slice A5 nn d5)).set_ 3 (.slice none 0 0)
    simpa using this
  have ho : Only g (g + 1) w2 u := by
    rw [← hu]
    exact ((Only.refl g (g + 1) w2).setCell (p := ⟨g, 2, none⟩) (Nat.le_refl _) (Nat.lt_succ_self _) _).setCell (p := ⟨g, 3, none⟩) (Nat.le_refl _) (Nat.lt_succ_self _) _
  rw [hu]
  have hgw := XI.out.blk.lt
  have hgl := XI.out.glo
  have su := HS5.out.apart ho (.inr (by omega))
  have ou := (XI.out.own.on HB2.out).off (S := fun b => b = g) ⟨ho.os, ho.tape, ho.output, ho.size, fun k hk hn => ho.block k hk (by omega)⟩ (fun b hb => XI.out.gne b hb)
  have hz2 : w.heap.size ≤ u.heap.size := Nat.le_trans HB2.out.size ho.size
  have on_ := ou.newTimes (su.low) (by omega) hz2
  have bu : Below lo w u := (HB2.out.mono (by omega)).trans (ho.below (by omega) (by have := HB2.out.size; omega))
  have HYU := Lib.hid yu
  have HSU := Lib.hid su
  have HSL := Lib.hid su.low
  have HON := Lib.hid on_
  have HBU := Lib.hid bu
  have HO := Lib.hid ho
  obtain ⟨d0, d1, d2, d3, d4⟩ := cells5 yu
  clear hu yu ho hgw hgl su ou hz2 on_ bu c2 c3 f2 f3
  go_wp2_with fail
  have hsm : DkS ⟨h.A1, h.n1, h.c1, A5, nn, d5, none, 0, 0⟩ ⟨d.net, ns, [], d.log⟩ := ⟨XI.out.small.n1, by show nn ≤ 1048576; omega, by show 0 ≤ 1048576; omega, fun k r hk => by simp at hk, XI.out.small.log⟩
  refine (implDeskText_any ⟨h.A1, h.n1, h.c1, A5, nn, d5, none, 0, 0⟩ ⟨d.net, ns, [], d.log⟩ m u.heap.size u (HON.out.reads (Nat.le_refl _)) hsm (Nat.le_refl _) (maxUpB XI.out.max XI.out.low HBU.out) (tabUpB XI.out.tab XI.out.low HBU.out) (synUpB XI.out.syn XI.out.low HBU.out)).mono ?_
  rintro e w7 ⟨rfl, b7⟩
  have HB7 := Lib.hid b7
  clear b7 hsm
  go_wp2
  go_ret2
  have hz := HB7.out.size
  have b8 := HB7.out.alloc hz (.cells #[.string (textDk ⟨d.net, ns, [], d.log⟩)] 9)
  refine ⟨_, _, _, by rw [HXF.out]; rfl, ⟨h.A1, h.n1, h.c1, A5, nn, d5, none, 0, 0⟩, [], ?_⟩
  rw [HXF.out]
  have hgw := HYU.out.lt
  have hgl := XI.out.glo
  have s8 := Sl.one9 (W := w7) (s := textDk ⟨d.net, ns, [], d.log⟩) hz
  refine ⟨HYU.out.on b8, (HON.out.on b8).wide (Nat.le_refl _) b8.size, fun b hb e => ?_, s8.wide (by omega) (Nat.le_refl _), fun b hb hd => ?_, fun b hb e => ?_, HBU.out.trans (b8.mono (by omega))⟩
  · rcases hb with hb | hb | hb
    · exact XI.out.gne b (.inl hb) e
    · have := HSL.out.inB_lt hb; have := XI.out.blk.lt; omega
    · rcases hb with hb | ⟨i, y, hy, _⟩
      · exact inB_nil hb
      · simp at hy
  · have := s8.inB_lt hb; have := HON.out.inD_lt hd; omega
  · have := s8.inB_lt hb; omega
end Go.Proofs.YtjalgpioklcbfaaGreatDoor
namespace Go.Proofs.YtjalgpioklcbfaaGreatDoor
open Go.RowKit Go.Lib

theorem strJoinAt_any (c : UInt8) (b off d : Nat) (xs : List ByteArray) (w : World) (hc : ∀ (j : Nat) x, xs[j]? = some x → w.cell? ⟨b, off + j, none⟩ = some (.string x)) (hb : b < w.heap.size) (h0 : 0 < xs.length) (hn : xs.length ≤ 1048577) (hd : xs.length ≤ d) (hl : (joinL c (xs.map fun s => s.data.toList)).length ≤ 140737488355328) :
    Calls Tryz.prog 80 #[.slice (some ⟨b, off, none⟩) xs.length d, .string ⟨#[c]⟩] w fun e w' => e = .returned (.string (asBytes (joinL c (xs.map fun s => s.data.toList)))) ∧ Below w.heap.size w w' := by
  refine (Tryz.strings_Join b off d xs ⟨#[c]⟩ w hc hb (by omega) hd (by rw [show (⟨#[c]⟩ : ByteArray).data.toList = [c] from rfl, join_joinL]; exact hl)).mono ?_
  rintro e w' ⟨rfl, b⟩
  exact ⟨by rw [show (⟨#[c]⟩ : ByteArray).data.toList = [c] from rfl, join_joinL]; rfl, b⟩
theorem OwnD.newTubes {u : World} {lo hi : Nat} {h : DkH} {d : Dk} {rh : List RnH} {A5 : Option Addr} {n5 d5 : Nat} {nt : Nt} (k : OwnD u lo hi h d rh) (s : Sl u hi u.heap.size 101 3 A5 n5 d5 (tbs nt.tubes)) (hl : lo ≤ hi) (hh : hi ≤ u.heap.size) :
    OwnD u lo u.heap.size ⟨A5, n5, d5, h.A2, h.n2, h.c2, h.A3, h.n3, h.c3⟩ ⟨nt, d.times, d.runs, d.log⟩ rh := by
  refine ⟨s.wide hl (Nat.le_refl _), k.times.wide (Nat.le_refl _) hh, k.runs.wide (Nat.le_refl _) hh, fun b hb hc => ?_, fun b hb hc => ?_, k.n2r⟩
  · have := s.inB_lt hb; have := k.times.inB_lt hc; omega
  · have := s.inB_lt hb; have := k.runs.inRn_lt hc; omega
set_option maxHeartbeats 4000000 in
set_option maxRecDepth 100000 in
theorem execNet_any {w : World} {lo g : Nat} {h : DkH} {d : Dk} {rh : List RnH} {WA NA : Option Addr} {wn nn : Nat} {ws : List ByteArray} {ns : List Int} {m : Int} (wc nc : Nat) (x : ExIn w lo g h d rh WA wn ws NA nn ns m) (h0 : 0 < wn) (hw : ((wordAt ws 0).toList == [110, 101, 116]) = true) (hcap : wn ≤ wc) (h2 : 2 ≤ wn) (hsz : (joinL 32 ((ws.drop 1).map fun s => s.data.toList)).length ≤ 1048576) :
    Calls Tryz.prog 36 #[.pointer (some ⟨g, 0, none⟩), .slice WA wn wc, .slice NA nn nc] w fun e w' => ∃ LA ln lc, e = .returned (.tuple #[.slice LA ln lc, .int .i64 (execF d ws ns).code]) ∧ ∃ h' rh', ExOut w w' lo g h' (execF d ws ns).dk rh' LA ln lc (execF d ws ns).lines := by
  have HX := Lib.hid (show execF d ws ns = netC d ws by unfold execF; rw [if_pos hw])
  have XI := Lib.hid x
  obtain ⟨s, b0, o0, hs0, rfl, hb0, k0⟩ := str_at x.wsr h0
  rw [Nat.add_zero] at k0
  have hsw : wordAt ws 0 = s := by unfold wordAt; rw [List.getD_eq_getElem?_getD, hs0]; rfl
  rw [hsw] at hw
  obtain ⟨c0, c1, c2, c3, c4⟩ := cells5 x.blk
  have hwl : ws.length = wn := strs_len x.wsr
  have HJ := Lib.hid (show ∀ (j : Nat) y, (ws.drop 1)[j]? = some y → w.cell? ⟨b0, o0 + 1 + j, none⟩ = some (.string y) from fun j y hy => by
    have := x.wsr.cells (1 + j) (.string y) (strs_get (by rw [List.getElem?_drop] at hy; exact hy))
    rwa [show o0 + (1 + j) = o0 + 1 + j by omega] at this)
  have HB0 := Lib.hid (show b0 < w.heap.size by have := x.blk.lt; have := x.glo; omega)
  obtain ⟨tl, htl⟩ : ∃ z, ws.drop 1 = z := ⟨_, rfl⟩
  have htlen : tl.length = wn - 1 := by rw [← htl, List.length_drop, hwl]
  rw [htl] at HJ hsz
  have HTL := Lib.hid htl
  have HLE := Lib.hid htlen
  have HSZ := Lib.hid hsz
  have hw1 : (1 : Int) ≤ wn := by omega
  have hw2 : ¬ wc = 1 := by omega
  clear htl htlen hwl hsz
  clear x hs0 hsw
  go_enter Tryz.func36, Tryz.ntmps36
  go_wp2_with fail
  have hcall := strJoinAt_any 32 b0 (o0 + 1) (wc - 1) tl w HJ.out HB0.out (by rw [HLE.out]; omega) (by rw [HLE.out]; have := XI.out.wl; omega) (by rw [HLE.out]; omega) (by have := HSZ.out; omega)
  rw [HLE.out] at hcall
  refine hcall.mono ?_
  rintro e w1 ⟨rfl, b1⟩
  have HB1 := Lib.hid b1
  clear b1 hcall
  obtain ⟨J, hJ⟩ : ∃ z, asBytes (joinL 32 (tl.map fun s => s.data.toList)) = z := ⟨_, rfl⟩
  have HJJ := Lib.hid (show joinL 32 (tl.map fun s => s.data.toList) = J.data.toList by rw [← hJ, data_asBytes])
  have HJZ := Lib.hid (show J.size ≤ 1048576 by rw [← hJ, asBytes_size]; exact HSZ.out)
  rw [hJ]
  have HJE := Lib.hid hJ
  clear hJ
  go_wp2_with fail
  refine (implReadNet_any J m w1 HJZ.out (cell_on HB1.out XI.out.max) (tabUp XI.out.tab HB1.out) (synUp XI.out.syn HB1.out)).mono ?_
  rintro e w2 ⟨A5, n5, d5, rfl, s5, b5⟩
  have HB2 := Lib.hid (bnext HB1.out b5 (Nat.le_refl _))
  have HS5 := Lib.hid (s5.wide HB1.out.size (Nat.le_refl _))
  clear b5 s5
  obtain ⟨nt, hnt⟩ : ∃ z, netV J = z := ⟨_, rfl⟩
  rw [hnt] at HS5 ⊢
  go_upto_region 4 with fail
  obtain ⟨u1, hu1⟩ : ∃ y, w2.alloc (.cells #[.int .i64 nt.sta, .slice A5 n5 d5] 28) = y := ⟨_, rfl⟩
  have y1 : Blk u1 w2.heap.size 28 #[.int .i64 nt.sta, .slice A5 n5 d5] := by rw [← hu1]; exact Blk.new _ _ _
  have b1 : Below w2.heap.size w2 u1 := by rw [← hu1]; exact (Below.refl _ _).alloc (Nat.le_refl _) _
  rw [hu1]
  have HB3 := Lib.hid (bnext HB2.out b1 (Nat.le_refl _))
  have HS6 := Lib.hid (HS5.out.on b1).low
  have t0 := y1.cellAt 0 (by simp)
  have t1 := y1.cellAt 1 (by simp)
  simp only [List.getElem_toArray, List.getElem_cons_zero, List.getElem_cons_succ] at t0 t1
  have HY1 := Lib.hid y1
  clear hu1 y1 b1
  rcases ho : (netF J.data.toList).isSome with _ | _
  · have HXF := Lib.hid (show execF d ws ns = ⟨d, [], 7⟩ by rw [HX.out, netC, HTL.out, HJJ.out, if_pos ho])
    go_wp2
    go_ret2
    exact ⟨none, 0, 0, by rw [HXF.out]; rfl, h, rh, by rw [HXF.out]; exact XI.out.out HB3.out (Sl.nil _ _ _ _ _)⟩
  obtain ⟨nt', hnt'⟩ := Option.isSome_iff_exists.1 ho
  obtain rfl : nt = nt' := by rw [← hnt, netV_some hnt']
  have HOK := Lib.hid (netF_some hnt').1
  have HXF := Lib.hid (show execF d ws ns = ⟨⟨nt, d.times, d.runs, d.log⟩, [textDk ⟨nt, d.times, d.runs, d.log⟩], 0⟩ by
    rw [HX.out, netC, HTL.out, HJJ.out, if_neg (by rw [ho]; decide)]
    have e : netV (asBytes J.data.toList) = nt := by rw [← HJJ.out, HJE.out, hnt]
    rw [e])
  clear hnt ho hnt'
  have Y2 := XI.out.blk.on HB3.out
  have f0 := Y2.frozen 0
  have f1 := Y2.frozen 1
  replace c0 := cell_on HB3.out c0
  replace c1 := cell_on HB3.out c1
  have HY2 := Lib.hid Y2
  clear Y2 c2 c3 c4
  go_upto_region 7 with fail
  obtain ⟨u, hu⟩ : ∃ y, (u1.setCell ⟨g, 0, none⟩ (.int .i64 nt.sta)).setCell ⟨g, 1, none⟩ (.slice A5 n5 d5) = y := ⟨_, rfl⟩
  have yu : Blk u g 32 #[.int .i64 nt.sta, .slice A5 n5 d5, .slice h.A2 h.n2 h.c2, .slice h.A3 h.n3 h.c3, .string d.log] := by
    rw [← hu]
    have := (HY2.out.set_ 0 (.int .i64 nt.sta)).set_ 1 (.slice A5 n5 d5)
    simpa using this
  have ho : Only g (g + 1) u1 u := by
    rw [← hu]
    exact ((Only.refl g (g + 1) u1).setCell (p := ⟨g, 0, none⟩) (Nat.le_refl _) (Nat.lt_succ_self _) _).setCell (p := ⟨g, 1, none⟩) (Nat.le_refl _) (Nat.lt_succ_self _) _
  rw [hu]
  have hgw := XI.out.blk.lt
  have hgl := XI.out.glo
  have su := HS6.out.apart ho (.inr (by omega))
  have ou := (XI.out.own.on HB3.out).off (S := fun b => b = g) ⟨ho.os, ho.tape, ho.output, ho.size, fun k hk hn => ho.block k hk (by omega)⟩ (fun b hb => XI.out.gne b hb)
  have hz2 : w.heap.size ≤ u.heap.size := Nat.le_trans HB3.out.size ho.size
  have on_ := ou.newTubes (nt := nt) (su.low) (by omega) hz2
  have bu : Below lo w u := (HB3.out.mono (by omega)).trans (ho.below (by omega) (by have := HB3.out.size; omega))
  have HYU := Lib.hid yu
  have HSL := Lib.hid su.low
  have HON := Lib.hid on_
  have HBU := Lib.hid bu
  obtain ⟨d0, d1, d2, d3, d4⟩ := cells5 yu
  clear hu yu ho hgw hgl su ou hz2 on_ bu c0 c1 f0 f1 t0 t1
  go_wp2_with fail
  have hn5 : n5 ≤ 24 := by have := tbs_len (HSL.out.reads (Nat.le_refl _)); have := (okNt_tubes HOK.out).2.2.1; omega
  have hsm : DkS ⟨A5, n5, d5, h.A2, h.n2, h.c2, h.A3, h.n3, h.c3⟩ ⟨nt, d.times, d.runs, d.log⟩ := ⟨by show n5 ≤ 1048576; omega, XI.out.small.n2, XI.out.small.n3, XI.out.small.runs, XI.out.small.log⟩
  refine (implDeskText_any ⟨A5, n5, d5, h.A2, h.n2, h.c2, h.A3, h.n3, h.c3⟩ ⟨nt, d.times, d.runs, d.log⟩ m u.heap.size u (HON.out.reads (Nat.le_refl _)) hsm (Nat.le_refl _) (maxUpB XI.out.max XI.out.low HBU.out) (tabUpB XI.out.tab XI.out.low HBU.out) (synUpB XI.out.syn XI.out.low HBU.out)).mono ?_
  rintro e w7 ⟨rfl, b7⟩
  have HB7 := Lib.hid b7
  clear b7 hsm
  go_wp2
  go_ret2
  have hz := HB7.out.size
  have b8 := HB7.out.alloc hz (.cells #[.string (textDk ⟨nt, d.times, d.runs, d.log⟩)] 9)
  refine ⟨_, _, _, by rw [HXF.out]; rfl, ⟨A5, n5, d5, h.A2, h.n2, h.c2, h.A3, h.n3, h.c3⟩, rh, ?_⟩
  rw [HXF.out]
  have hgw := HYU.out.lt
  have hgl := XI.out.glo
  have s8 := Sl.one9 (W := w7) (s := textDk ⟨nt, d.times, d.runs, d.log⟩) hz
  refine ⟨HYU.out.on b8, (HON.out.on b8).wide (Nat.le_refl _) b8.size, fun b hb e => ?_, s8.wide (by omega) (Nat.le_refl _), fun b hb hd => ?_, fun b hb e => ?_, HBU.out.trans (b8.mono (by omega))⟩
  · rcases hb with hb | hb
    · have := HSL.out.inB_lt hb; have := XI.out.blk.lt; omega
    · exact XI.out.gne b (.inr hb) e
  · have := s8.inB_lt hb; have := HON.out.inD_lt hd; omega
  · have := s8.inB_lt hb; omega
end Go.Proofs.YtjalgpioklcbfaaGreatDoor
