/- Commands of the console, as the program carries them out: runs. Commands of the console, as the program carries them out: log. -/
import Derived.Test.YtjalgpioklcbfaaGreatDoorKExD
import Derived.Test.YtjalgpioklcbfaaGreatDoorMgConsoleAA
import Derived.Test.YtjalgpioklcbfaaGreatDoorKRdLog
set_option linter.unusedVariables false
set_option linter.unusedSimpArgs false
namespace Go.Proofs.YtjalgpioklcbfaaGreatDoor
open Go.RowKit Go.Lib

theorem okDk_parts {d : Dk} (h : okDk d = true) : okNt d.net = true ∧ okRuns d.times d.runs = true ∧ codeF d.log = 0 := by
  unfold okDk at h
  rw [Bool.and_eq_true, Bool.and_eq_true] at h
  exact ⟨h.1, h.2.1, by simpa using h.2.2⟩
theorem strs_take_step {α : Type} {l : List α} {f : α → ByteArray} {k : Nat} {x : α} (h : l[k]? = some x) : strs ((l.map f).take (k + 1)) = strs ((l.map f).take k) ++ [.string (f x)] := by
  rw [List.take_add_one, List.getElem?_map, h]
  simp [strs]
set_option maxHeartbeats 4000000 in
set_option maxRecDepth 100000 in
theorem execRuns_any {w : World} {lo g : Nat} {h : DkH} {d : Dk} {rh : List RnH} {WA NA : Option Addr} {wn nn : Nat} {ws : List ByteArray} {ns : List Int} {m : Int} (wc nc : Nat) (x : ExIn w lo g h d rh WA wn ws NA nn ns m) (h0 : 0 < wn) (hw : ((wordAt ws 0).toList == [114, 117, 110, 115]) = true) :
    Calls Tryz.prog 36 #[.pointer (some ⟨g, 0, none⟩), .slice WA wn wc, .slice NA nn nc] w fun e w' => ∃ LA ln lc, e = .returned (.tuple #[.slice LA ln lc, .int .i64 (execF d ws ns).code]) ∧ ∃ h' rh', ExOut w w' lo g h' (execF d ws ns).dk rh' LA ln lc (execF d ws ns).lines := by
  have HX := Lib.hid (show execF d ws ns = runsCm d by unfold execF; rw [if_neg (by rw [notW hw (by decide)]; decide), if_neg (by rw [notW hw (by decide)]; decide), if_neg (by rw [notW hw (by decide)]; decide), if_neg (by rw [notW hw (by decide)]; decide), if_pos hw])
  have e0 := notW (l' := [110, 101, 116]) hw (by decide)
  have e1 := notW (l' := [119, 97, 121]) hw (by decide)
  have e2 := notW (l' := [116, 105, 109, 101, 115]) hw (by decide)
  have e3 := notW (l' := [114, 117, 110]) hw (by decide)
  have XI := Lib.hid x
  obtain ⟨s, b0, o0, hs0, rfl, hb0, k0⟩ := str_at x.wsr h0
  rw [Nat.add_zero] at k0
  have hsw : wordAt ws 0 = s := by unfold wordAt; rw [List.getD_eq_getElem?_getD, hs0]; rfl
  rw [hsw] at hw e0 e1 e2 e3
  obtain ⟨c0, c1, c2, c3, c4⟩ := cells5 x.blk
  clear x hs0 hsw
  have hok := (okDk_parts XI.out.ok).2.1
  have HOK := Lib.hid hok
  have HXF := Lib.hid (show execF d ws ns = ⟨d, okL (d.runs.map fun r => asBytes (numLn (r.st :: r.way))), 0⟩ by rw [HX.out, runsCm])
  have HLN := Lib.hid XI.out.own.runs.len
  have hn12 : h.n3 ≤ 12 := by rw [← XI.out.own.runs.len]; exact okRuns_len hok
  have acc0 := Acc.made w 9 1
  have HACC := Lib.hid acc0
  have HB0 := Lib.hid (acc0.below (B := w.heap.size) (Nat.le_refl _) (Nat.le_refl _))
  replace c3 := cell_on HB0.out c3
  have hrr0 := (XI.out.own.runs.reads (Nat.le_refl _))
  obtain ⟨A3, hA3⟩ : ∃ z, h.A3 = z := ⟨_, rfl⟩
  rw [hA3] at c3 hrr0
  have HRR := Lib.hid hrr0
  clear acc0 hok c0 c1 c2 c4 hA3 hrr0
  go_enter Tryz.func36, Tryz.ntmps36
  go_wp2_with fail
  go_loopw [14, 155] (fun o i wr => ∃ (k : Nat) (A' : Option Addr) (d' : Nat), k ≤ h.n3 ∧ i = .int .i64 (k : Int) ∧ o = .slice A' k d' ∧ Acc w.heap.size w.heap.size 9 1 w wr A' k d' (strs ((d.runs.map fun r => asBytes (numLn (r.st :: r.way))).take k))) (fun _ i _ => h.n3 - (RowKit.intOf i).toNat)
  case atStart => exact ⟨0, _, _, Nat.zero_le _, rfl, rfl, HACC.out⟩
  case round =>
    obtain ⟨k, A', d', hk, rfl, rfl, hacc⟩ := hrel
    have HA := Lib.hid hacc
    have HBr := Lib.hid (hacc.below (B := w.heap.size) (Nat.le_refl _) (Nat.le_refl _))
    clear hacc
    have hki : (0 : Int) ≤ k := by omega
    by_cases hlt : k < h.n3
    · obtain ⟨r, b, off, A2, m2, cc2, he, rfl, hb, q0, q1, hrr, hm2⟩ := run_at (HRR.out.on (Nat.le_refl _) HBr.out) hlt
      have hro := okRuns_at HOK.out he
      have hwl := okWay_mem hro.1
      have hte := okTimes_len (okRuns_times HOK.out)
      have HE := Lib.hid (strs_take_step (f := fun r : Rn => asBytes (numLn (r.st :: r.way))) he)
      have hml := ints_len hrr
      obtain ⟨b2, o2, rfl, _, _⟩ := hrr.at_ (by omega)
      have HNB := Lib.hid (show ∀ x ∈ [r.st] ++ r.way, i64b x from fun x hx => by
        rw [List.mem_append, List.mem_singleton] at hx
        rcases hx with rfl | hx
        · exact i64b_of (by omega) (by omega)
        · have := hwl.2.2 x hx; exact i64b_of (by omega) (by omega))
      have hkn : (k : Int) < h.n3 := by omega
      have hm12 : m2 ≤ 12 := by omega
      obtain ⟨way, st⟩ := r
      simp only at q1 hrr hml HE HNB
      have HRW := Lib.hid hrr
      clear he hro hwl hte hrr
      go_upto_region 29 with fail
      obtain ⟨u, hu⟩ : ∃ y, wr.alloc (.cells #[.slice (some ⟨b2, o2, none⟩) m2 cc2, .int .i64 st] 123) = y := ⟨_, rfl⟩
      have yu : Blk u wr.heap.size 123 #[.slice (some ⟨b2, o2, none⟩) m2 cc2, .int .i64 st] := by rw [← hu]; exact Blk.new _ _ _
      have bu : Below wr.heap.size wr u := by rw [← hu]; exact (Below.refl _ _).alloc (Nat.le_refl _) _
      rw [hu]
      obtain ⟨z2, hz2, hz3, k0, k1, hbz⟩ := two_al u #[.int .i64 st] #[.slice (some ⟨u.heap.size, 0, none⟩) 1 1, .slice (some ⟨b2, o2, none⟩) m2 cc2] 2 29
      have HZ := Lib.hid hz2
      have HK0 := Lib.hid k0
      have HK1 := Lib.hid k1
      have HBz := Lib.hid (bnext (bnext HBr.out bu (Nat.le_refl _)) hbz (Nat.le_refl _))
      have HAz := Lib.hid ((HA.out.on bu (Nat.le_refl _)).on hbz (Nat.le_refl _))
      have HRz := Lib.hid ((HRW.out.on HBr.out.size bu).on (Nat.le_trans HBr.out.size bu.size) hbz)
      have p0 := yu.cellAt 0 (by simp)
      have p1 := yu.cellAt 1 (by simp)
      simp only [List.getElem_toArray, List.getElem_cons_zero, List.getElem_cons_succ] at p0 p1
      have p0b := cell_on ((Below.refl u.heap.size u).alloc (Nat.le_refl _) (.cells #[.int .i64 st] 2)) p0
      have ylt := yu.lt
      clear hu yu bu hz2 hz3 k0 k1 hbz q0 q1
      go_wp2_with fail
      rw [← HZ.out]
      refine (concat2_any (u.heap.size + 1) u.heap.size 0 1 1 b2 o2 m2 cc2 z2.heap.size [st] way z2 HK1.out (HK0.out.readsL (xs := ints [st]) (n := 1) (size := 1) rfl) (HRz.out.more HBz.out.size) (Nat.le_refl _) (by omega) (by omega) (by omega)).mono ?_
      rintro e w5 ⟨A5, d5, rfl, s5, b5⟩
      have HS5 := Lib.hid s5
      have HB5 := Lib.hid (bnext HBz.out b5 (Nat.le_refl _))
      have HA5 := Lib.hid (HAz.out.on b5 (Nat.le_refl _))
      clear s5 b5 p0 p1 p0b ylt
      go_wp2_with fail
      refine (numbersLine_any A5 (1 + m2) d5 w5.heap.size ([st] ++ way) w5 (HS5.out.reads (Nat.le_refl _)) (Nat.le_refl _) (by omega) HNB.out (tabUp XI.out.tab HB5.out)).mono ?_
      rintro e w6 ⟨rfl, b6⟩
      have HA6 := Lib.hid (HA5.out.on b6 (Nat.le_refl _))
      clear b6
      go_wp2_with (at_builtin; refine wpList_accAt rfl _ _ 24 rfl 9 _ 1 16 Tryz.underlying24 info_str9 rfl (by decide) (by decide) HA6.out (Nat.le_refl _) rfl _ rfl [.string (asBytes (numLn ([st] ++ way)))] rfl rfl (fun u hu => by simp at hu; subst hu; rfl) (by omega) ?_; intro A7 d7 w9 hacc2; have HA9 := Lib.hid hacc2; clear hacc2)
      go_roundw
      case rel => exact ⟨k + 1, A7, d7, by omega, by go_num, rfl, by rw [HE.out]; exact HA9.out⟩
      case measure => simp [RowKit.intOf]; omega
    · obtain rfl : h.n3 = k := by omega
      have HT := Lib.hid (show (d.runs.map fun r : Rn => asBytes (numLn (r.st :: r.way))).take h.n3 = d.runs.map fun r : Rn => asBytes (numLn (r.st :: r.way)) by rw [List.take_of_length_le (by rw [List.length_map, HLN.out]; exact Nat.le_refl _)])
      have hsl := HA.out.sl (lo := w.heap.size) (Nat.le_refl _) (Nat.le_refl _)
      rw [HT.out] at hsl
      have HS := Lib.hid hsl
      clear hsl
      go_wp2_with fail
      refine (okLine_any A' h.n3 d' w.heap.size _ wr HS.out HBr.out.size (by omega) (tabUp XI.out.tab HBr.out)).mono ?_
      rintro e w6 ⟨A7, c7, rfl, s7, b7, _⟩
      have HS7 := Lib.hid s7
      have HB7 := Lib.hid (HBr.out.trans b7)
      clear s7 b7
      go_wp2
      go_ret2
      refine ⟨A7, h.n3 + 1, c7, by rw [HXF.out]; rfl, h, rh, ?_⟩
      rw [HXF.out]
      refine XI.out.out HB7.out ?_
      have h7 := HS7.out
      show Sl _ _ _ _ _ _ _ _ (strs (okL _))
      unfold okL
      rw [List.length_map, HLN.out]
      exact h7
end Go.Proofs.YtjalgpioklcbfaaGreatDoor
namespace Go.Proofs.YtjalgpioklcbfaaGreatDoor
open Go.RowKit Go.Lib

theorem field0_at (A : Option Addr) (n d : Nat) (p v : Int) : ∀ W : World, (Instr.field 150 (.agg #[.slice A n d, .int .i64 p, .int .i64 v]) 0).run Tryz.prog W = .ok (.slice A n d) W := fun _ => by kernel_rfl
set_option maxHeartbeats 4000000 in
set_option maxRecDepth 100000 in
theorem execLog_any {w : World} {lo g : Nat} {h : DkH} {d : Dk} {rh : List RnH} {WA NA : Option Addr} {wn nn : Nat} {ws : List ByteArray} {ns : List Int} {m : Int} (wc nc : Nat) (x : ExIn w lo g h d rh WA wn ws NA nn ns m) (h0 : 0 < wn) (hw : ((wordAt ws 0).toList == [108, 111, 103]) = true) :
    Calls Tryz.prog 36 #[.pointer (some ⟨g, 0, none⟩), .slice WA wn wc, .slice NA nn nc] w fun e w' => ∃ LA ln lc, e = .returned (.tuple #[.slice LA ln lc, .int .i64 (execF d ws ns).code]) ∧ ∃ h' rh', ExOut w w' lo g h' (execF d ws ns).dk rh' LA ln lc (execF d ws ns).lines := by
  have HX := Lib.hid (show execF d ws ns = logC d by unfold execF; rw [if_neg (by rw [notW hw (by decide)]; decide), if_neg (by rw [notW hw (by decide)]; decide), if_neg (by rw [notW hw (by decide)]; decide), if_neg (by rw [notW hw (by decide)]; decide), if_neg (by rw [notW hw (by decide)]; decide), if_neg (by rw [notW hw (by decide)]; decide), if_neg (by rw [notW hw (by decide)]; decide), if_neg (by rw [notW hw (by decide)]; decide), if_neg (by rw [notW hw (by decide)]; decide), if_neg (by rw [notW hw (by decide)]; decide)])
  have e0 := notW (l' := [110, 101, 116]) hw (by decide)
  have e1 := notW (l' := [119, 97, 121]) hw (by decide)
  have e2 := notW (l' := [116, 105, 109, 101, 115]) hw (by decide)
  have e3 := notW (l' := [114, 117, 110]) hw (by decide)
  have e4 := notW (l' := [114, 117, 110, 115]) hw (by decide)
  have e5 := notW (l' := [102, 114, 101, 101]) hw (by decide)
  have e6 := notW (l' := [115, 101, 97, 114, 99, 104]) hw (by decide)
  have e7 := notW (l' := [115, 116, 117, 99, 107]) hw (by decide)
  have e8 := notW (l' := [113, 117, 101, 117, 101]) hw (by decide)
  have e9 := notW (l' := [101, 110, 116, 101, 114]) hw (by decide)
  have XI := Lib.hid x
  obtain ⟨s, b0, o0, hs0, rfl, hb0, k0⟩ := str_at x.wsr h0
  rw [Nat.add_zero] at k0
  have hsw : wordAt ws 0 = s := by unfold wordAt; rw [List.getD_eq_getElem?_getD, hs0]; rfl
  rw [hsw] at hw e0 e1 e2 e3 e4 e5 e6 e7 e8 e9
  obtain ⟨c0, c1, c2, c3, c4⟩ := cells5 x.blk
  clear x hs0 hsw
  have hcf := (okDk_parts XI.out.ok).2.2
  have HLOK := Lib.hid (logR_ok d.log)
  have HXF := Lib.hid (show execF d ws ns = ⟨d, okL ((logR d.log).list.map entW), 0⟩ by rw [HX.out, logC])
  have hl4 := logR_len hcf
  have acc0 := Acc.made w 9 1
  have HACC := Lib.hid acc0
  have HB0 := Lib.hid (acc0.below (B := w.heap.size) (Nat.le_refl _) (Nat.le_refl _))
  replace c4 := cell_on HB0.out c4
  clear acc0 hcf c0 c1 c2 c3
  go_enter Tryz.func36, Tryz.ntmps36
  go_wp2_with fail
  refine (readLog_any d.log m _ XI.out.small.log (cell_on HB0.out XI.out.max) (tabUp XI.out.tab HB0.out) (synUp XI.out.syn HB0.out)).mono ?_
  rintro e w1 ⟨LA, n, dd, rfl, s1, b1⟩
  have HB1 := Lib.hid (bnext HB0.out b1 (Nat.le_refl _))
  have HA1 := Lib.hid (((HACC.out.sl (lo := w.heap.size) (Nat.le_refl _) (Nat.le_refl _)).on b1).low)
  have HNE := Lib.hid (show ∀ b, inB LA b → ¬ inB (some (⟨w.heap.size, 0, none⟩ : Addr)) b from fun b hb ⟨ad, e, hh⟩ => by have h1 := (s1.inB_lt hb).1; injection e with e; subst e; simp at h1 hh; omega)
  have hll : (logR d.log).list.length = n := by have := s1.len; rw [ens_length] at this; omega
  have HS1 := Lib.hid s1.low
  have HLL := Lib.hid hll
  have hn4 : n ≤ 4000 := by omega
  have hz1 := b1.size
  clear b1 s1 c4 hl4 hll hz1
  obtain ⟨el, hel⟩ : ∃ z, (logR d.log).list = z := ⟨_, rfl⟩
  have HEL := Lib.hid hel
  rw [hel] at HS1 HLL
  have HEN := Lib.hid (show ∀ x ∈ el, okEn x = true from fun x hx => HLOK.out.ok x (by rw [hel]; exact hx))
  clear hel
  have hfd := field0_at LA n dd (logR d.log).stamp ((logR d.log).at_ : Int)
  go_wp2_with fail
  go_loopw [36, 363] (fun o i wr => ∃ (k : Nat) (A' : Option Addr) (d' : Nat), k ≤ n ∧ i = .int .i64 (k : Int) ∧ o = .slice A' k d' ∧ Sl wr w.heap.size wr.heap.size 9 1 A' k d' (strs ((el.map entW).take k)) ∧ Sl wr 0 wr.heap.size 145 3 LA n dd (ens el) ∧ (∀ b, inB LA b → ¬ inB A' b) ∧ Below w.heap.size w wr) (fun _ i _ => n - (RowKit.intOf i).toNat)
  case atStart => exact ⟨0, _, _, Nat.zero_le _, rfl, rfl, HA1.out, HS1.out.wide (Nat.zero_le _) (Nat.le_refl _), HNE.out, HB1.out⟩
  case round =>
    obtain ⟨k, A', d', hk, rfl, rfl, hacc, hrd, hnb, hbel⟩ := hrel
    have HA := Lib.hid hacc
    have HR := Lib.hid hrd
    have HBr := Lib.hid hbel
    have HNB := Lib.hid hnb
    clear hacc hrd hfd hnb hbel
    have hki : (0 : Int) ≤ k := by omega
    by_cases hlt : k < n
    · obtain ⟨x, b, off, he, rfl, hb, q0, q1, q2⟩ := en_at (HR.out.reads (Nat.le_refl _)) hlt
      have hx := HEN.out x (List.mem_of_getElem? he)
      have hxb := okEn_bd hx
      have hxw := okEn_what hx
      have HE := Lib.hid (strs_take_step (f := entW) he)
      have hkn : (k : Int) < n := by omega
      clear he hx
      go_upto_region 77 with fail
      obtain ⟨u, hu⟩ : ∃ y, wr.alloc (.cells #[.int .i64 x.day, .string x.what, .int .i64 x.val] 145) = y := ⟨_, rfl⟩
      have yu : Blk u wr.heap.size 145 #[.int .i64 x.day, .string x.what, .int .i64 x.val] := by rw [← hu]; exact Blk.new _ _ _
      have bu : Below wr.heap.size wr u := by rw [← hu]; exact (Below.refl _ _).alloc (Nat.le_refl _) _
      rw [hu]
      have HBu := Lib.hid (bnext HBr.out bu (Nat.le_refl _))
      have HAu := Lib.hid (HA.out.on bu).low
      have HRu := Lib.hid (HR.out.on bu).low
      have p0 := yu.cellAt 0 (by simp)
      have p1 := yu.cellAt 1 (by simp)
      have p2 := yu.cellAt 2 (by simp)
      simp only [List.getElem_toArray, List.getElem_cons_zero, List.getElem_cons_succ] at p0 p1 p2
      clear hu yu bu q0 q1 q2
      go_wp2_with fail
      refine (words_any x u (i64b_of (by omega) (by omega)) (i64b_of (by omega) (by omega)) (tabUp XI.out.tab HBu.out) (by omega)).mono ?_
      rintro e w6 ⟨rfl, b6⟩
      have HA6 := Lib.hid (HAu.out.on b6).low
      have HR6 := Lib.hid (HRu.out.on b6).low
      have HB6 := Lib.hid (bnext HBu.out b6 (Nat.le_refl _))
      have hz6 : w.heap.size ≤ w6.heap.size := HB6.out.size
      clear b6 p0 p1 p2
      have HW := Lib.hid (show asBytes (itoa x.day) ++ ⟨#[32]⟩ ++ x.what ++ ⟨#[32]⟩ ++ asBytes (itoa x.val) = entW x from rfl)
      rw [HW.out]
      go_wp2_with (at_builtin; refine wpList_oneF rfl _ _ 24 rfl 9 _ 1 16 Tryz.underlying24 info_str9 rfl (by decide) (by decide) HA6.out hz6 rfl [.string (entW x)] w6.heap.size rfl rfl rfl (fun u hu => by simp at hu; subst hu; rfl) (by omega) ?_; intro A7 d7 w9 hs9 b9 z9 f9 k9; have HS9 := Lib.hid hs9; have HB9 := Lib.hid b9; have HF9 := Lib.hid f9; have HK9 := Lib.hid k9; clear hs9 b9 z9 f9 k9)
      go_roundw
      case rel =>
        refine ⟨k + 1, A7, d7, by omega, by go_num, rfl, by rw [HE.out]; exact HS9.out, (HR6.out.off (off_of HB9.out HF9.out) (fun b hb hc => HNB.out b hb hc)).low, fun b hb hc => ?_, HB6.out.trans HB9.out⟩
        obtain ⟨ad, e1, e2⟩ := hc
        exact HK9.out b (HR6.out.inB_heap hb) (fun ad' e' hh' => HNB.out b hb ⟨ad', e', hh'⟩) ad e1 e2
      case measure => simp [RowKit.intOf]; omega
    · obtain rfl : n = k := by omega
      have HT := Lib.hid (show (el.map entW).take n = el.map entW by rw [List.take_of_length_le (by rw [List.length_map, HLL.out]; exact Nat.le_refl _)])
      have hsl := HA.out
      rw [HT.out] at hsl
      have HS := Lib.hid hsl
      clear hsl
      go_wp2_with fail
      refine (okLine_any A' n d' w.heap.size _ wr HS.out HBr.out.size (by omega) (tabUp XI.out.tab HBr.out)).mono ?_
      rintro e w6 ⟨A7, c7, rfl, s7, b7, _⟩
      have HS7 := Lib.hid s7
      have HB7 := Lib.hid (HBr.out.trans b7)
      clear s7 b7
      go_wp2
      go_ret2
      refine ⟨A7, n + 1, c7, by rw [HXF.out]; rfl, h, rh, ?_⟩
      rw [HXF.out]
      refine XI.out.out HB7.out ?_
      have h7 := HS7.out
      show Sl _ _ _ _ _ _ _ _ (strs (okL _))
      unfold okL
      rw [List.length_map, HEL.out, HLL.out]
      exact h7
end Go.Proofs.YtjalgpioklcbfaaGreatDoor
