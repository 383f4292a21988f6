/- Events: the fewest stations with a share of all events. -/
import Derived.Test.YtnlghcpidlpfkaaEvD
import Derived.Test.YtnlghcpidlpfkaaAcc
import Derived.Test.YtnlghcpidlpfkaaFew
set_option linter.unusedVariables false
namespace Go.Proofs.Ytnlghcpidlpfkaa
open Go.RowKit

def fewest (l : List Ev) (p : Int) : List Int × Int :=
  if okEv l then (if inR p 0 1000 then ((fewSt (stationsOf l) (fewJ (stationsOf l) (p * (l.length : Int)) 11 0)).2.2, 0) else ([], 2)) else ([], 1)
theorem fewest_ok {l : List Ev} {p : Int} {j n : Nat} (h1 : okEv l = true) (h2 : inR p 0 1000 = true) (hn : l.length = n) (hj10 : j ≤ 10) (hj : ¬ 1000 * (fewSt (stationsOf l) j).2.1 < p * (n : Int)) (hall : ∀ i, i < j → 1000 * (fewSt (stationsOf l) i).2.1 < p * (n : Int)) :
    fewest l p = ((fewSt (stationsOf l) j).2.2, 0) := by
  simp only [fewest, h1, h2, if_true, hn]
  rw [fewJ_at _ _ j hj hall 11 0 (by omega) (by omega)]
theorem fewest_range {l : List Ev} {p : Int} (h1 : okEv l = true) (h2 : inR p 0 1000 = false) : fewest l p = ([], 2) := by simp [fewest, h1, h2]
theorem fewest_bad {l : List Ev} {p : Int} (h1 : okEv l = false) : fewest l p = ([], 1) := by simp [fewest, h1]
theorem fewSt_len (cs : List Int) : ∀ j, (fewSt cs j).2.2.length = j
  | 0 => rfl
  | j + 1 => by simp [fewSt, fewSt_len cs j]
theorem fewJ_le (cs : List Int) (pn : Int) : ∀ f j, fewJ cs pn f j ≤ j + f
  | 0, j => by simp [fewJ]
  | f + 1, j => by
    have := fewJ_le cs pn f (j + 1)
    rw [fewJ]; split <;> omega
theorem cntFewestStationsFor_len {l : List Ev} {p : Int} {m : Nat} (hm : (ints (fewest l p).1).length = m * 1) : m ≤ 1048576 := by
  rw [ints_length] at hm
  have := fewJ_le (stationsOf l) (p * (l.length : Int)) 11 0
  unfold fewest at hm
  split at hm
  · split at hm
    · simp only [fewSt_len] at hm; omega
    · simp at hm; omega
  · simp at hm; omega
theorem ints_snocP (xs : List Int) (x : Int) : ints xs ++ [.int .i64 x] = ints (xs ++ [x]) := by simp [ints]
theorem info_i64P : (Try.prog.info? 2).map (fun i => (i.zero, i.size, i.bytes)) = some (some (.int .i64 0), 1, 8) := by kernel_rfl
theorem share_bound {p : Int} {n s : Int} (hp0 : 0 ≤ p) (hp : p ≤ 1000) (hn0 : 0 ≤ n) (h : 1000 * s < p * n) : s < n := by
  have : p * n ≤ 1000 * n := Int.mul_le_mul_of_nonneg_right hp hn0
  omega
theorem pn_bound {p : Int} {n : Int} (hp0 : 0 ≤ p) (hp : p ≤ 1000) (hn0 : 0 ≤ n) (hn : n ≤ 200) : 0 ≤ p * n ∧ p * n ≤ 200000 := by
  have h1 : p * n ≤ 1000 * n := Int.mul_le_mul_of_nonneg_right hp hn0
  exact ⟨Int.mul_nonneg hp0 hn0, by omega⟩

/-- What holds at the head of a round. -/
structure FewRel (l : List Ev) (p : Int) (n : Nat) (g b0 z lo : Nat) (w wr : World) (j : Nat) (A' : Option Addr) (m d : Nat) (s : Int) : Prop where
  inv : FewInv (stationsOf l) n j
  all : ∀ i, i < j → 1000 * (fewSt (stationsOf l) i).2.1 < p * (n : Int)
  s : s = (fewSt (stationsOf l) j).2.1
  acc : Acc b0 z 2 1 wr wr A' m d (ints (fewSt (stationsOf l) j).2.2)
  blk : Blk wr g 2 (ints (fewSt (stationsOf l) j).1).toArray
  bel : Below lo w wr
  z : z ≤ wr.heap.size

theorem specFewestStationsFor_any (A : Option Addr) (n c : Nat) (l : List Ev) (p : Int) (B : Nat) (w : World) (hr : Reads w B 2 A n (evs l)) (hB : B ≤ w.heap.size) (hn : n ≤ 1048576) (hx : I64 p) :
    Calls Try.prog 57 #[.slice A n c, .int .i64 p] w fun e w' => ∃ A' m d, e = .returned (.tuple #[.slice A' m d, .int .i64 (fewest l p).2]) ∧ Sl w' w.heap.size w'.heap.size 2 1 A' m d (ints (fewest l p).1) ∧ Below w.heap.size w w' := by
  have HL := Lib.hid (evs_len hr)
  by_cases hok : okEv l = true
  · have HO := Lib.hid hok
    by_cases hw : inR p 0 1000 = true
    · have HW := Lib.hid hw
      have hb := inR_true.1 hw
      have hn2 : n ≤ 200 := by have := okEv_len hok; have := HL.out; omega
      have hpn := pn_bound hb.1 hb.2 (show (0 : Int) ≤ n by omega) (by omega)
      have hinv0 := stations_start hok
      rw [HL.out] at hinv0
      go_enter Try.func57, Try.ntmps57
      go_wp2_with fail
      refine (l26Ok_any _ _ _ _ _ _ hr hn).mono ?_
      rintro e w' ⟨rfl, rfl⟩
      go_wp2_with fail
      refine (l00In_any _ _ _ _).mono ?_
      rintro e w' ⟨rfl, rfl⟩
      go_wp2_with fail
      refine (l26Stations_any _ _ _ _ l _ hr hB HO.out).mono ?_
      rintro e w1 ⟨g, rfl, s1, b1⟩
      go_wp2
      obtain ⟨hgz, hgl, hblk⟩ : g < w1.heap.size ∧ w.heap.size ≤ g ∧ Blk w1 g 2 (ints (stationsOf l)).toArray := by
        rcases s1.form with ⟨h1, _⟩ | ⟨g', cur, h1, h2, h3, h4, h5, h6, h7⟩
        · cases h1
        · injection h1 with h1; injection h1 with h1; subst h1
          refine ⟨h3, h2, ?_⟩
          rw [List.take_of_length_le (by rw [Array.length_toList]; omega)] at h7
          rw [← h7]; exact h4
      have hz1 := b1.size
      have rel0 : FewRel l p n g w1.heap.size w1.heap.size w.heap.size w (w1.alloc (.cells #[] 2)) 0 (some ⟨w1.heap.size, 0, none⟩) 0 0 0 :=
        ⟨hinv0, fun i hi => by omega, rfl, (Acc.made w1 2 1).rebase, hblk.alloc _, b1.alloc hz1 _, by simp⟩
      clear s1 b1 hr hok hw hinv0 hblk
      go_loopw [7, 8] (fun o sm wr => ∃ (j : Nat) (A' : Option Addr) (m d : Nat) (s : Int), sm = .int .i64 s ∧ o = .slice A' m d ∧ FewRel l p n g w1.heap.size w1.heap.size w.heap.size w wr j A' m d s) (fun _ sm _ => n - (intOf sm).toNat)
      case atStart => exact ⟨0, _, _, _, 0, rfl, rfl, rel0⟩
      case round =>
        obtain ⟨j, A', m, d, s, rfl, rfl, hrel⟩ := hrel
        obtain rfl : j = m := by have h1 := hrel.acc.len; rw [ints_length, hrel.inv.out] at h1; omega
        have HR := Lib.hid hrel
        have hs0 := hrel.inv.s0
        have hs1 := hrel.inv.s1
        rw [← hrel.s] at hs0 hs1
        have hj10 : j ≤ 10 := by have := hrel.inv.cnt; omega
        clear rel0 hrel
        by_cases hlt : 1000 * s < p * (n : Int)
        · have hsn := share_bound hb.1 hb.2 (by omega) hlt
          obtain ⟨hk10, hget, hv0, hv1, hinv'⟩ := HR.out.inv.round (by rw [← HR.out.s]; exact hsn)
          have HG := Lib.hid hget
          have HI := Lib.hid hinv'
          have HS := Lib.hid HR.out.s
          have hR := (HR.out.blk.readsL (size := 1) (n := 10) (by rw [ints_length]; exact HR.out.inv.len))
          have HST := Lib.hid (show fewSt (stationsOf l) (j + 1) = _ from rfl)
          clear hget hinv'
          go_wp2_with fail
          refine (l26Most_any _ _ _ _ _ _ hR (Nat.le_refl _) (by omega) (by omega)).mono ?_
          rintro e w2 ⟨rfl, b2⟩
          have hblk2 := HR.out.blk.on b2
          have HA2 := Lib.hid ((HR.out.acc.on b2 HR.out.z).rebase)
          have HB2 := Lib.hid (bnext HR.out.bel b2 (by omega))
          have hz2 : w1.heap.size ≤ w2.heap.size := Nat.le_trans HR.out.z b2.size
          have hc0 := ints_cell hblk2 HG.out
          have hf0 := hblk2.frozen (bestTo (fewSt (stationsOf l) j).1 10)
          have HBk2 := Lib.hid hblk2
          clear hR b2 hblk2
          have HSJ := Lib.hid (show (fewSt (stationsOf l) (j + 1)).2.1 = s + valTo (fewSt (stationsOf l) j).1 10 by rw [HS.out]; rfl)
          have HOJ := Lib.hid (show ints (fewSt (stationsOf l) (j + 1)).2.2 = ints (fewSt (stationsOf l) j).2.2 ++ [.int .i64 ((bestTo (fewSt (stationsOf l) j).1 10 : Nat) : Int)] by rw [ints_snocP]; rfl)
          have HCJ := Lib.hid (show (fewSt (stationsOf l) (j + 1)).1 = (fewSt (stationsOf l) j).1.set (bestTo (fewSt (stationsOf l) j).1 10) (-1) from rfl)
          clear HST
          generalize bestTo (fewSt (stationsOf l) j).1 10 = q at *
          generalize valTo (fewSt (stationsOf l) j).1 10 = v at *
          have hgne : g ≠ w1.heap.size := by omega
          have HA3 := Lib.hid (HA2.out.setOther (p := ⟨g, q, none⟩) hgz hgne (.int .i64 (-1)))
          go_wp2_with (at_builtin; refine wpList_accAt rfl _ _ 53 rfl 2 _ 1 8 Try.underlying53 info_i64P rfl (by decide) (by decide) HA3.out (by simpa using hz2) rfl w2.heap.size (by simp) [.int .i64 q] rfl rfl (fun u hu => by simp at hu; subst hu; rfl) (by omega) ?_; intro A2 d2 w4 hacc4; have HA4 := Lib.hid hacc4; clear hacc4)
          go_roundw
          case rel =>
            refine ⟨j + 1, _, _, _, _, rfl, rfl, HI.out, fun i hi => ?_, ?_, ?_, ?_, ?_, ?_⟩
            · rcases Nat.lt_or_eq_of_le (Nat.lt_succ_iff.1 hi) with h1 | h1
              · exact HR.out.all i h1
              · subst h1; rw [← HS.out]; exact hlt
            · rw [HSJ.out]
            · rw [HOJ.out]; exact HA4.out.rebase
            · rw [HCJ.out]; exact HA4.out.blk (ints_set HBk2.out _ _) hgz hgne
            · exact (HB2.out.setCell hgl _).trans (HA4.out.below (by omega) (by omega))
            · have := HA4.out.size; simp at this; omega
          case measure => simp [intOf]; omega
        · have HF := Lib.hid (fewest_ok HO.out HW.out HL.out hj10 (by rw [← HR.out.s]; exact hlt) HR.out.all)
          go_wp2
          go_ret2
          rw [HF.out]
          exact ⟨_, _, _, rfl, HR.out.acc.sl (by omega) (by omega), HR.out.bel⟩
    · have hw : inR p 0 1000 = false := by simpa using hw
      have HW := Lib.hid hw
      go_enter Try.func57, Try.ntmps57
      go_wp2_with fail
      refine (l26Ok_any _ _ _ _ _ _ hr hn).mono ?_
      rintro e w' ⟨rfl, rfl⟩
      go_wp2_with fail
      refine (l00In_any _ _ _ _).mono ?_
      rintro e w' ⟨rfl, rfl⟩
      go_wp2
      go_ret2
      rw [fewest_range HO.out HW.out]
      exact ⟨_, _, _, rfl, Sl.nil _ _ _ _ _, Below.refl _ _⟩
  · have hok : okEv l = false := by simpa using hok
    have HO := Lib.hid hok
    go_enter Try.func57, Try.ntmps57
    go_wp2_with fail
    refine (l26Ok_any _ _ _ _ _ _ hr hn).mono ?_
    rintro e w' ⟨rfl, rfl⟩
    go_wp2
    go_ret2
    rw [fewest_bad HO.out]
    exact ⟨_, _, _, rfl, Sl.nil _ _ _ _ _, Below.refl _ _⟩
theorem implFewestStationsFor_any (A : Option Addr) (n c : Nat) (l : List Ev) (p : Int) (B : Nat) (w : World) (hr : Reads w B 2 A n (evs l)) (hB : B ≤ w.heap.size) (hn : n ≤ 1048576) (hx : I64 p) :
    Calls Try.prog 56 #[.slice A n c, .int .i64 p] w fun e w' => ∃ A' m d, e = .returned (.tuple #[.slice A' m d, .int .i64 (fewest l p).2]) ∧ Sl w' w.heap.size w'.heap.size 2 1 A' m d (ints (fewest l p).1) ∧ Below w.heap.size w w' := by
  have HL := Lib.hid (evs_len hr)
  by_cases hok : okEv l = true
  · have HO := Lib.hid hok
    by_cases hw : inR p 0 1000 = true
    · have HW := Lib.hid hw
      have hb := inR_true.1 hw
      have hn2 : n ≤ 200 := by have := okEv_len hok; have := HL.out; omega
      have hpn := pn_bound hb.1 hb.2 (show (0 : Int) ≤ n by omega) (by omega)
      have hinv0 := stations_start hok
      rw [HL.out] at hinv0
      go_enter Try.func56, Try.ntmps56
      go_wp2_with fail
      refine (implValidEvents_any _ _ _ _ _ _ hr hB hn).mono ?_
      rintro e w0 ⟨rfl, b0⟩
      go_wp2_with fail
      refine (within_any _ _ _ _).mono ?_
      rintro e w' ⟨rfl, rfl⟩
      go_wp2_with fail
      have hz0 := b0.size
      have made := (Sl.made w0 2 1)
      refine (byStation_any _ _ _ _ l _ ((hr.on hB b0).on (Nat.le_trans hB hz0) ((Below.refl _ _).alloc (Nat.le_refl _) _)) (by simp; omega) HO.out).mono ?_
      rintro e w1 ⟨g, rfl, s1, b1⟩
      go_wp2
      obtain ⟨hgz, hgl, hblk⟩ : g < w1.heap.size ∧ w0.heap.size + 1 ≤ g ∧ Blk w1 g 2 (ints (stationsOf l)).toArray := by
        rcases s1.form with ⟨h1, _⟩ | ⟨g', cur, h1, h2, h3, h4, h5, h6, h7⟩
        · cases h1
        · injection h1 with h1; injection h1 with h1; subst h1
          refine ⟨h3, by simpa using h2, ?_⟩
          rw [List.take_of_length_le (by rw [Array.length_toList]; omega)] at h7
          rw [← h7]; exact h4
      have hz1 : w0.heap.size + 1 ≤ w1.heap.size := by have := b1.size; simpa using this
      have acc0 := Acc.start (made.on b1) (b0 := w0.heap.size) (fun a ha => by injection ha with ha; subst ha; rfl) w1.heap.size
      have hb1 := (bnext b0 ((Below.refl w0.heap.size w0).alloc (Nat.le_refl _) (.cells #[] 2)) (Nat.le_refl _) |>.trans (b1.mono (by simp; omega)))
      have rel0 : FewRel l p n g w0.heap.size w1.heap.size w.heap.size w w1 0 (some ⟨w0.heap.size, 0, none⟩) 0 0 0 :=
        ⟨hinv0, fun i hi => by omega, rfl, acc0, hblk, hb1, Nat.le_refl _⟩
      clear s1 b1 hr hok hw hinv0 hblk acc0 hb1 made b0
      go_loopw [6, 8] (fun o sm wr => ∃ (j : Nat) (A' : Option Addr) (m d : Nat) (s : Int), sm = .int .i64 s ∧ o = .slice A' m d ∧ FewRel l p n g w0.heap.size w1.heap.size w.heap.size w wr j A' m d s) (fun _ sm _ => n - (intOf sm).toNat)
      case atStart => exact ⟨0, _, _, _, 0, rfl, rfl, rel0⟩
      case round =>
        obtain ⟨j, A', m, d, s, rfl, rfl, hrel⟩ := hrel
        obtain rfl : j = m := by have h1 := hrel.acc.len; rw [ints_length, hrel.inv.out] at h1; omega
        have HR := Lib.hid hrel
        have hs0 := hrel.inv.s0
        have hs1 := hrel.inv.s1
        rw [← hrel.s] at hs0 hs1
        have hj10 : j ≤ 10 := by have := hrel.inv.cnt; omega
        clear rel0 hrel
        by_cases hlt : 1000 * s < p * (n : Int)
        · have hsn := share_bound hb.1 hb.2 (by omega) hlt
          obtain ⟨hk10, hget, hv0, hv1, hinv'⟩ := HR.out.inv.round (by rw [← HR.out.s]; exact hsn)
          have HG := Lib.hid hget
          have HI := Lib.hid hinv'
          have HS := Lib.hid HR.out.s
          have hR := (HR.out.blk.readsL (size := 1) (n := 10) (by rw [ints_length]; exact HR.out.inv.len))
          have HST := Lib.hid (show fewSt (stationsOf l) (j + 1) = _ from rfl)
          clear hget hinv'
          go_wp2_with fail
          refine (greatest_any _ _ _ _ _ _ hR (by omega) (by omega)).mono ?_
          rintro e w2 ⟨rfl, rfl⟩
          clear hR
          have HSJ := Lib.hid (show (fewSt (stationsOf l) (j + 1)).2.1 = s + valTo (fewSt (stationsOf l) j).1 10 by rw [HS.out]; rfl)
          have HOJ := Lib.hid (show ints (fewSt (stationsOf l) (j + 1)).2.2 = ints (fewSt (stationsOf l) j).2.2 ++ [.int .i64 ((bestTo (fewSt (stationsOf l) j).1 10 : Nat) : Int)] by rw [ints_snocP]; rfl)
          have HCJ := Lib.hid (show (fewSt (stationsOf l) (j + 1)).1 = (fewSt (stationsOf l) j).1.set (bestTo (fewSt (stationsOf l) j).1 10) (-1) from rfl)
          clear HST
          generalize bestTo (fewSt (stationsOf l) j).1 10 = q at *
          generalize valTo (fewSt (stationsOf l) j).1 10 = v at *
          have hgne : g ≠ w0.heap.size := by omega
          have hzr := HR.out.z
          go_wp2_with (at_builtin; refine wpList_acc rfl _ _ 53 rfl 2 _ 1 8 Try.underlying53 info_i64P rfl (by decide) (by decide) HR.out.acc hzr rfl [.int .i64 q] rfl rfl (fun u hu => by simp at hu; subst hu; rfl) (by omega) ?_; intro A2 d2 w4 hacc4; have HA4 := Lib.hid hacc4; have hblk4 := hacc4.blk HR.out.blk hgz hgne; have hc0 := ints_cell hblk4 HG.out; have hf0 := hblk4.frozen q; clear hacc4; have HBk4 := Lib.hid hblk4; clear hblk4)
          go_roundw
          case rel =>
            refine ⟨j + 1, _, _, _, _, rfl, rfl, HI.out, fun i hi => ?_, ?_, ?_, ?_, ?_, ?_⟩
            · rcases Nat.lt_or_eq_of_le (Nat.lt_succ_iff.1 hi) with h1 | h1
              · exact HR.out.all i h1
              · subst h1; rw [← HS.out]; exact hlt
            · rw [HSJ.out]
            · rw [HOJ.out]; exact HA4.out.rebase.setOther (p := ⟨g, q, none⟩) hgz hgne _
            · rw [HCJ.out]; exact ints_set HBk4.out _ _
            · exact (HR.out.bel.trans (HA4.out.below (by omega) (by omega))).setCell (by simp; omega) _
            · have := HA4.out.size; simp; omega
          case measure => simp [intOf]; omega
        · have HF := Lib.hid (fewest_ok HO.out HW.out HL.out hj10 (by rw [← HR.out.s]; exact hlt) HR.out.all)
          go_wp2
          go_ret2
          rw [HF.out]
          exact ⟨_, _, _, rfl, HR.out.acc.sl (by omega) (by omega), HR.out.bel⟩
    · have hw : inR p 0 1000 = false := by simpa using hw
      have HW := Lib.hid hw
      go_enter Try.func56, Try.ntmps56
      go_wp2_with fail
      refine (implValidEvents_any _ _ _ _ _ _ hr hB hn).mono ?_
      rintro e w0 ⟨rfl, b0⟩
      go_wp2_with fail
      refine (within_any _ _ _ _).mono ?_
      rintro e w' ⟨rfl, rfl⟩
      go_wp2
      go_ret2
      rw [fewest_range HO.out HW.out]
      exact ⟨_, _, _, rfl, Sl.nil _ _ _ _ _, b0⟩
  · have hok : okEv l = false := by simpa using hok
    have HO := Lib.hid hok
    go_enter Try.func56, Try.ntmps56
    go_wp2_with fail
    refine (implValidEvents_any _ _ _ _ _ _ hr hB hn).mono ?_
    rintro e w0 ⟨rfl, b0⟩
    go_wp2
    go_ret2
    rw [fewest_bad HO.out]
    exact ⟨_, _, _, rfl, Sl.nil _ _ _ _ _, b0⟩
end Go.Proofs.Ytnlghcpidlpfkaa
