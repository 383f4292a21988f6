/- The reading of a log: whole, both sides; its code. EntriesOf, ValuesOf, SumOfWhat, both sides. Entries in order that are drawn; the log laws' small helpers. NamesIn, both sides. Rows of one's own, block by block: what a call turns, what stands; the marks of a desk. No function of the program in sight. The marks of a desk: laid and found. The marks of a desk: runs, net, desk. -/
import Derived.Test.YtjalgpioklcbfaaGreatDoorKLine
import Derived.Test.YtjalgpioklcbfaaGreatDoorKRdLog
import Derived.Test.YtjalgpioklcbfaaGreatDoorMgConsoleAA
import Derived.Test.YtjalgpioklcbfaaGreatDoorMgConsoleAH
import Derived.Deep.DeepCutAuto
import Derived.Test.YtjalgpioklcbfaaGreatDoorMgConsoleAD
import Derived.Test.YtjalgpioklcbfaaGreatDoorMgConsoleAB
import Derived.IntWalk
import Derived.Test.YtjalgpioklcbfaaGreatDoorMgConsoleAC
import Derived.Test.YtjalgpioklcbfaaGreatDoorKRnI
set_option linter.unusedVariables false
set_option linter.unusedSimpArgs false
namespace Go.Proofs.YtjalgpioklcbfaaGreatDoor
open Go.RowKit Go.Lib

theorem LRec.atOf {lo g : Nat} {s : ByteArray} {w : World} {r : LogR} (h : LRec lo g s w r) : atOf w ⟨g, 1, none⟩ = r.at_ := by
  obtain ⟨A, n, d, h1, h2, h3, h4⟩ := h
  have q : w.cell? ⟨g, 1, none⟩ = some (.int .i64 (r.at_ : Int)) := h1.cellAt 1 (by simp)
  exact (atOf_eq q).trans (Int.toNat_natCast _)
theorem LRec.drew {lo g : Nat} {s : ByteArray} {w : World} {r : LogR} (h : LRec lo g s w r) : LRec lo g s w.drew r := h

set_option maxHeartbeats 4000000 in
set_option maxRecDepth 100000 in
theorem l27Read_any (s : ByteArray) (w : World) (hs : s.size ≤ 1048576) :
    Calls Tryz.prog 163 #[.string s] w fun e w' => e = .returned (.pointer (some ⟨w.heap.size + 1, 0, none⟩)) ∧ LRec w.heap.size (w.heap.size + 1) s w' (logR s) ∧ Below w.heap.size w w' := by
  have hr0 : LRec w.heap.size (w.heap.size + 1) s ((w.alloc (.cells #[] 145)).alloc (.cells #[.string s, .int .i64 0, .int .i64 0, .slice (some ⟨w.heap.size, 0, none⟩) 0 0] 213)) ⟨[], 0, 0⟩ := by
    refine ⟨some ⟨w.heap.size, 0, none⟩, 0, 0, ?_, ?_, ?_, Nat.le_succ _⟩
    · have := Blk.new (w.alloc (.cells #[] 145)) 213 #[.string s, .int .i64 0, .int .i64 0, .slice (some ⟨w.heap.size, 0, none⟩) 0 0]
      simpa using this
    · exact (((Sl.made w 145 3).on ((Below.refl _ _).alloc (Nat.le_refl _) _)).low).wide (Nat.le_refl _) (Nat.le_refl _)
    · intro ad had
      injection had with had
      subst had
      simp
  have hb0 : Below w.heap.size w ((w.alloc (.cells #[] 145)).alloc (.cells #[.string s, .int .i64 0, .int .i64 0, .slice (some ⟨w.heap.size, 0, none⟩) 0 0] 213)) := ((Below.refl _ _).alloc (Nat.le_refl _) _).alloc (by simp) _
  have HR := Lib.hid hr0
  have HB := Lib.hid hb0
  clear hr0 hb0
  go_enter Tryz.func163, Tryz.ntmps163
  go_wp2
  go_loopw [] (fun wr => ∃ r : LogR, r.ok ∧ r.at_ ≤ s.size ∧ logR s = logGo (splitS 10 (s.extract r.at_ s.size)) r ∧ LRec w.heap.size (w.heap.size + 1) s wr r ∧ Below w.heap.size w wr) (fun wr => s.size - atOf wr ⟨w.heap.size + 1, 1, none⟩)
  case atStart => exact ⟨⟨[], 0, 0⟩, LogR.ok_start, Nat.zero_le _, by rw [whole_]; rfl, HR.out, HB.out⟩
  case round =>
    obtain ⟨r, hok, hat, hgo, hrec, hbel⟩ := hrel
    have HA1 := Lib.hid hrec.atOf
    have HGO := Lib.hid hgo
    have HB2 := Lib.hid hbel
    have HK := Lib.hid (fun r' (h : stepS s r = some r') => stepS_some hok hat h)
    clear hgo hbel
    go_wp2_with fail
    refine (l27line_any _ _ s r _ hrec hok hat hs HB2.out.size).mono ?_
    rintro e w1 (⟨r', h1, rfl, h3, b1⟩ | ⟨h1, rfl, h3, b1⟩)
    · have H1 := Lib.hid h1
      have H3 := Lib.hid h3
      have HF := Lib.hid (HB2.out.trans b1)
      clear h1 h3 b1 hrec hok hat
      go_wp2
      go_roundw
      case rel =>
        obtain ⟨k1, k2, k3⟩ := HK.out r' H1.out
        exact ⟨r', k1, k2, by rw [HGO.out, stepS_go (by omega), H1.out], H3.out, HF.out⟩
      case measure =>
        obtain ⟨k1, k2, k3⟩ := HK.out r' H1.out
        rw [HA1.out, H3.out.atOf]
        omega
    · have HO := Lib.hid (show logR s = r by rw [HGO.out, stepS_go hat, h1])
      have H3 := Lib.hid h3
      have HF := Lib.hid (HB2.out.trans b1)
      clear h1 h3 b1 hrec hok hat
      go_wp2
      go_ret
      exact ⟨rfl, by rw [HO.out]; exact H3.out, HF.out⟩

def codeF (s : ByteArray) : Int := if 4000 < s.size then 5 else if (logR s).at_ = s.size then 0 else 8
theorem codeF_full {s : ByteArray} (h : 4000 < s.size) : codeF s = 5 := by simp [codeF, h]
theorem codeF_ok {s : ByteArray} (h : ¬ 4000 < s.size) (h2 : (logR s).at_ = s.size) : codeF s = 0 := by simp only [codeF, h, h2, if_true, if_false]
theorem codeF_bad {s : ByteArray} (h : ¬ 4000 < s.size) (h2 : (logR s).at_ ≠ s.size) : codeF s = 8 := by simp only [codeF, h, h2, if_false]
theorem codeF_bd (s : ByteArray) : 0 ≤ codeF s ∧ codeF s ≤ 8 := by
  unfold codeF
  split
  · omega
  · split <;> omega

set_option maxHeartbeats 4000000 in
set_option maxRecDepth 100000 in
theorem l27Code_any (s : ByteArray) (w : World) (hs : s.size ≤ 1048576) :
    Calls Tryz.prog 96 #[.string s] w fun e w' => ∃ g, e = .returned (.tuple #[.pointer (some ⟨g, 0, none⟩), .int .i64 (codeF s)]) ∧ (codeF s = 0 → LRec w.heap.size g s w' (logR s)) ∧ Below w.heap.size w w' := by
  by_cases h4 : 4000 < s.size
  · have h4i : (4000 : Int) < (s.size : Int) := by omega
    have HO := Lib.hid (codeF_full h4)
    go_enter Tryz.func96, Tryz.ntmps96
    go_wp2
    go_ret2
    rw [HO.out]
    exact ⟨_, rfl, (fun h => by cases h), (Below.refl _ _).alloc (Nat.le_refl _) _⟩
  · have h4i : ¬ ((4000 : Int) < (s.size : Int)) := by omega
    have HAT := logR_at s
    have HO1 := Lib.hid (fun h2 => codeF_ok h4 h2)
    have HO2 := Lib.hid (fun h2 => codeF_bad h4 h2)
    go_enter Tryz.func96, Tryz.ntmps96
    go_wp2_with fail
    refine (l27Read_any s _ hs).mono ?_
    rintro e w1 ⟨rfl, hr, b1⟩
    obtain ⟨A, n, d, y1, hsl, hne, hlg⟩ := hr
    have q1 : w1.cell? ⟨w.heap.size + 1, 1, none⟩ = some (.int .i64 ((logR s).at_ : Int)) := y1.cellAt 1 (by simp)
    have HR := Lib.hid (show LRec w.heap.size (w.heap.size + 1) s w1 (logR s) from ⟨A, n, d, y1, hsl, hne, hlg⟩)
    have HB := Lib.hid b1
    clear y1 hsl hne hlg b1
    obtain ⟨v, hv⟩ : ∃ v, (logR s).at_ = v := ⟨_, rfl⟩
    rw [hv] at q1 HAT
    by_cases h8 : v = s.size
    · have hq : ((v : Int) != (s.size : Int)) = false := by rw [h8]; exact bne_self_eq_false _
      have hq2 : ((v : Int) == (s.size : Int)) = true := by rw [h8]; exact beq_self_eq_true _
      have HO := Lib.hid (HO1.out (hv.trans h8))
      clear h8 hv
      go_wp2
      go_ret2
      rw [HO.out]
      exact ⟨_, rfl, (fun _ => HR.out), HB.out⟩
    · have hq : ((v : Int) != (s.size : Int)) = true := by rw [bne_iff_ne]; omega
      have hq2 : ((v : Int) == (s.size : Int)) = false := by rw [beq_eq_false_iff_ne]; omega
      have HO := Lib.hid (HO2.out (by rw [hv]; exact h8))
      clear h8 hv
      go_wp2
      go_ret2
      rw [HO.out]
      exact ⟨_, rfl, (fun h => by cases h), HB.out⟩

def codeR (s : ByteArray) : LogR := if codeF s = 0 then logR s else ⟨[], 0, 0⟩
theorem codeR_ok {s : ByteArray} (h : codeF s = 0) : codeR s = logR s := by simp only [codeR, h, if_true]
theorem codeR_bad {s : ByteArray} (h : codeF s ≠ 0) : codeR s = ⟨[], 0, 0⟩ := by simp only [codeR, h, if_false]
set_option maxHeartbeats 4000000 in
set_option maxRecDepth 100000 in
theorem logCode_any (s : ByteArray) (m : Int) (w : World) (hs : s.size ≤ 1048576) (hm : w.cell? ⟨1, 0, none⟩ = some (.int .i64 m)) (ht : TabP w) (hv : SynP w) :
    Calls Tryz.prog 136 #[.string s] w fun e w' => ∃ (A : Option Addr) (n d : Nat), e = .returned (.tuple #[.agg #[.slice A n d, .int .i64 (codeR s).stamp, .int .i64 ((codeR s).at_ : Int)], .int .i64 (codeF s)]) ∧ Sl w' w.heap.size w'.heap.size 145 3 A n d (ens (codeR s).list) ∧ Below w.heap.size w w' := by
  have hw0 : (w.alloc (.cells #[.slice none 0 0, .int .i64 0, .int .i64 0] 150)).cell? ⟨1, 0, none⟩ = some (.int .i64 m) := cell_on ((Below.refl _ _).alloc (Nat.le_refl _) _) hm
  have hb0 : Below w.heap.size w (w.alloc (.cells #[.slice none 0 0, .int .i64 0, .int .i64 0] 150)) := (Below.refl _ _).alloc (Nat.le_refl _) _
  have y0 := Blk.new w 150 #[.slice none 0 0, .int .i64 0, .int .i64 0]
  by_cases h4 : 4000 < s.size
  · have h4i : (4000 : Int) < (s.size : Int) := by omega
    have HO := Lib.hid (codeF_full h4)
    have HR := Lib.hid (codeR_bad (s := s) (by rw [HO.out]; decide))
    have hc0 := y0.cellAt 0 (by simp)
    have hc1 := y0.cellAt 1 (by simp)
    have hc2 := y0.cellAt 2 (by simp)
    have hf0 := y0.frozen 0
    have hf1 := y0.frozen 1
    have hf2 := y0.frozen 2
    clear y0 ht hv hm
    go_enter Tryz.func136, Tryz.ntmps136
    go_wp2
    exact bodyPost_ret (v := .tuple #[.agg #[.slice none 0 0, .int .i64 0, .int .i64 0], .int .i64 5]) (by simp [results, Tryz.results136, go_sem, hc0, hc1, hc2]) rfl ⟨none, 0, 0, by rw [HO.out, HR.out]; rfl, by rw [HR.out]; exact Sl.nil _ _ _ _ _, hb0⟩
  · have h4i : ¬ ((4000 : Int) < (s.size : Int)) := by omega
    have HAT := logR_at s
    have HO1 := Lib.hid (fun h2 => codeF_ok h4 h2)
    have HO2 := Lib.hid (fun h2 => codeF_bad h4 h2)
    have HT := Lib.hid (tabUp ht hb0)
    have HV := Lib.hid (synUp hv hb0)
    clear ht hv hm
    go_enter Tryz.func136, Tryz.ntmps136
    go_wp2_with fail
    refine (readLog_any s m _ hs hw0 HT.out HV.out).mono ?_
    rintro e w1 ⟨A, n, d, rfl, hsl, b1⟩
    have y1 := y0.on b1
    have HB1 := Lib.hid (bnext hb0 b1 (Nat.le_refl _))
    have hz1 := b1.size
    clear b1 y0 hw0 hb0
    obtain ⟨v, hv⟩ : ∃ v, (logR s).at_ = v := ⟨_, rfl⟩
    obtain ⟨p, hp⟩ : ∃ p, (logR s).stamp = p := ⟨_, rfl⟩
    rw [hv] at HAT
    rw [hv, hp]
    have HP := Lib.hid hp
    have HW := Lib.hid hv
    clear hp hv
    have yb' : Blk (w1.alloc (.cells #[.slice A n d, .int .i64 p, .int .i64 (v : Int)] 150)) w1.heap.size 150 #[.slice A n d, .int .i64 p, .int .i64 (v : Int)] := Blk.new _ _ _
    have yr' := y1.alloc (.cells #[.slice A n d, .int .i64 p, .int .i64 (v : Int)] 150)
    have hsl' := Lib.hid (hsl.on ((Below.refl w1.heap.size w1).alloc (Nat.le_refl _) (.cells #[.slice A n d, .int .i64 p, .int .i64 (v : Int)] 150)))
    have HB2 := Lib.hid (HB1.out.alloc HB1.out.size (.cells #[.slice A n d, .int .i64 p, .int .i64 (v : Int)] 150))
    have e0 := yb'.cellAt 0 (by simp)
    have e1 := yb'.cellAt 1 (by simp)
    have e2 := yb'.cellAt 2 (by simp)
    have hc0 := yr'.cellAt 0 (by simp)
    have hc1 := yr'.cellAt 1 (by simp)
    have hc2 := yr'.cellAt 2 (by simp)
    have hf0 := yr'.frozen 0
    have hf1 := yr'.frozen 1
    have hf2 := yr'.frozen 2
    clear y1 hsl yb' yr'
    by_cases h8 : v = s.size
    · have hlt : ¬ ((v : Int) < (s.size : Int)) := by omega
      have HO := Lib.hid (HO1.out (HW.out.trans h8))
      have HR := Lib.hid (codeR_ok HO.out)
      clear h8
      go_wp2
      exact bodyPost_ret (v := .tuple #[.agg #[.slice A n d, .int .i64 p, .int .i64 (v : Int)], .int .i64 0]) (by simp [results, Tryz.results136, go_sem, hc0, hc1, hc2]) rfl ⟨A, n, d, by rw [HO.out, HR.out, HW.out, HP.out], by rw [HR.out]; exact ((((hsl'.out.wide (lo' := w.heap.size + 1) (hi' := (w1.alloc (.cells #[.slice A n d, .int .i64 p, .int .i64 (v : Int)] 150)).heap.size) (by simp) (by simp)).setLow (by simp) _).setLow (by simp) _).setLow (by simp) _).low.wide (by omega) (Nat.le_refl _), ((HB2.out.setCell (Nat.le_refl _) _).setCell (Nat.le_refl _) _).setCell (Nat.le_refl _) _⟩
    · have hlt : (v : Int) < (s.size : Int) := by omega
      have HO := Lib.hid (HO2.out (by rw [HW.out]; exact h8))
      have HR := Lib.hid (codeR_bad (s := s) (by rw [HO.out]; decide))
      clear h8
      go_wp2
      exact bodyPost_ret (v := .tuple #[.agg #[.slice none 0 0, .int .i64 0, .int .i64 0], .int .i64 8]) (by simp [results, Tryz.results136, go_sem, hc0, hc1, hc2]) rfl ⟨none, 0, 0, by rw [HO.out, HR.out]; rfl, by rw [HR.out]; exact Sl.nil _ _ _ _ _, ((HB2.out.setCell (Nat.le_refl _) _).setCell (Nat.le_refl _) _).setCell (Nat.le_refl _) _⟩
end Go.Proofs.YtjalgpioklcbfaaGreatDoor
namespace Go.Proofs.YtjalgpioklcbfaaGreatDoor
open Go.RowKit Go.Lib

theorem ints_snocL (xs : List Int) (x : Int) : ints xs ++ [.int .i64 x] = ints (xs ++ [x]) := by simp [ints]
theorem info_i64L : (Tryz.prog.info? 2).map (fun i => (i.zero, i.size, i.bytes)) = some (some (.int .i64 0), 1, 8) := by kernel_rfl
theorem codeF_small {s : ByteArray} (h : codeF s = 0) : s.size ≤ 4000 := by
  unfold codeF at h
  split at h
  · cases h
  · omega
theorem codeR_len (s : ByteArray) : (codeR s).list.length ≤ 4000 := by
  unfold codeR
  split
  · rename_i h
    have h1 := codeF_small h
    have h2 := (logR_ok s).len
    have h3 := logR_at s
    omega
  · simp
theorem logR_len {s : ByteArray} (h : codeF s = 0) : (logR s).list.length ≤ 4000 := by
  have := codeR_len s
  rw [codeR_ok h] at this
  exact this
def isW (x : En) (t : ByteArray) : Bool := x.what.toList == t.toList
def valsTo (l : List En) (t : ByteArray) : Nat → List Int
  | 0 => []
  | k + 1 => match l[k]? with
    | none => valsTo l t k
    | some x => if isW x t = true then valsTo l t k ++ [x.val] else valsTo l t k
theorem valsTo_yes {l : List En} {t : ByteArray} {k : Nat} {x : En} (h : l[k]? = some x) (h2 : isW x t = true) : valsTo l t (k + 1) = valsTo l t k ++ [x.val] := by simp [valsTo, h, h2]
theorem valsTo_no {l : List En} {t : ByteArray} {k : Nat} {x : En} (h : l[k]? = some x) (h2 : isW x t = false) : valsTo l t (k + 1) = valsTo l t k := by simp [valsTo, h, h2]
theorem valsTo_len (l : List En) (t : ByteArray) : ∀ k, (valsTo l t k).length ≤ k
  | 0 => by simp [valsTo]
  | k + 1 => by
    have := valsTo_len l t k
    rw [valsTo]
    split
    · omega
    · split
      · simp; omega
      · omega
def whatF (s t : ByteArray) : Int := if codeF s = 0 then (if isName t = true then 0 else 2) else codeF s
theorem whatF_bad {s t : ByteArray} (h : codeF s ≠ 0) : whatF s t = codeF s := by simp [whatF, h]
theorem whatF_name {s t : ByteArray} (h : codeF s = 0) (h2 : isName t = false) : whatF s t = 2 := by simp [whatF, h, h2]
theorem whatF_ok {s t : ByteArray} (h : codeF s = 0) (h2 : isName t = true) : whatF s t = 0 := by simp [whatF, h, h2]
def valsF (s t : ByteArray) : List Int := if whatF s t = 0 then valsTo (logR s).list t (logR s).list.length else []
theorem valsF_ok {s t : ByteArray} (h : whatF s t = 0) : valsF s t = valsTo (logR s).list t (logR s).list.length := by simp only [valsF, h, if_true]
theorem valsF_bad {s t : ByteArray} (h : whatF s t ≠ 0) : valsF s t = [] := by simp only [valsF, h, if_false]
set_option maxHeartbeats 4000000 in
set_option maxRecDepth 100000 in
theorem implValuesOf_any (s t : ByteArray) (m : Int) (w : World) (hs : s.size ≤ 1048576) (hts : t.size ≤ 1048576) (hm : w.cell? ⟨1, 0, none⟩ = some (.int .i64 m)) (ht : TabP w) (hv : SynP w) :
    Calls Tryz.prog 92 #[.string s, .string t] w fun e w' => ∃ A m d, e = .returned (.tuple #[.slice A m d, .int .i64 (whatF s t)]) ∧ Sl w' w.heap.size w'.heap.size 2 1 A m d (ints (valsF s t)) ∧ Below w.heap.size w w' := by
  have HC := Lib.hid (logCode_any s m w hs hm ht hv)
  have htz : t.size ≤ 9223372036854775807 := by omega
  clear ht hv hm
  by_cases hc : codeF s = 0
  · rcases hN : isName t with _ | _
    · have HW := Lib.hid (whatF_name hc hN)
      have HO := Lib.hid (valsF_bad (s := s) (t := t) (by rw [HW.out]; decide))
      go_enter Tryz.func92, Tryz.ntmps92
      go_wp2_with fail
      refine HC.out.mono ?_
      rintro e w1 ⟨A, n, d, rfl, hsl, b1⟩
      have yb' : Blk (w1.alloc (.cells #[.slice A n d, .int .i64 (codeR s).stamp, .int .i64 ((codeR s).at_ : Int)] 150)) w1.heap.size 150 #[.slice A n d, .int .i64 (codeR s).stamp, .int .i64 ((codeR s).at_ : Int)] := Blk.new _ _ _
      have HS := Lib.hid (hsl.on ((Below.refl w1.heap.size w1).alloc (Nat.le_refl _) (.cells #[.slice A n d, .int .i64 (codeR s).stamp, .int .i64 ((codeR s).at_ : Int)] 150))).low
      have HB := Lib.hid (b1.alloc b1.size (.cells #[.slice A n d, .int .i64 (codeR s).stamp, .int .i64 ((codeR s).at_ : Int)] 150))
      have e0 := yb'.cellAt 0 (by simp)
      clear yb' hsl b1
      rw [hc]
      clear hc
      go_wp2_with (first | (go_at_call 160; refine (implIsName_any _ _ htz).mono ?_; rintro e w2 ⟨rfl, rfl⟩) | (go_at_call 79; refine (within_any _ _ _ _).mono ?_; rintro e w2 ⟨rfl, rfl⟩) | fail "n")
      go_ret2
      rw [HW.out]
      refine ⟨_, _, _, rfl, ?_, HB.out⟩
      rw [HO.out]
      exact Sl.nil _ _ _ _ _
    · have HW := Lib.hid (whatF_ok hc hN)
      have HO := Lib.hid (valsF_ok HW.out)
      have hlen := logR_len hc
      have HR := codeR_ok hc
      go_enter Tryz.func92, Tryz.ntmps92
      go_wp2_with fail
      refine HC.out.mono ?_
      rintro e w1 ⟨A, n, d, rfl, hsl, b1⟩
      have yb' : Blk (w1.alloc (.cells #[.slice A n d, .int .i64 (codeR s).stamp, .int .i64 ((codeR s).at_ : Int)] 150)) w1.heap.size 150 #[.slice A n d, .int .i64 (codeR s).stamp, .int .i64 ((codeR s).at_ : Int)] := Blk.new _ _ _
      have HS := Lib.hid (hsl.on ((Below.refl w1.heap.size w1).alloc (Nat.le_refl _) (.cells #[.slice A n d, .int .i64 (codeR s).stamp, .int .i64 ((codeR s).at_ : Int)] 150))).low
      have HB := Lib.hid (b1.alloc b1.size (.cells #[.slice A n d, .int .i64 (codeR s).stamp, .int .i64 ((codeR s).at_ : Int)] 150))
      have e0 := yb'.cellAt 0 (by simp)
      clear yb' hsl b1
      have hln : (logR s).list.length = n := by have := HS.out.len; rw [HR, ens_length] at this; omega
      have R1 := HS.out.reads (Nat.le_refl _)
      obtain ⟨wq, hwq⟩ : ∃ y, w1.alloc (.cells #[.slice A n d, .int .i64 (codeR s).stamp, .int .i64 ((codeR s).at_ : Int)] 150) = y := ⟨_, rfl⟩
      rw [hwq] at R1 HB e0
      have e0' : ∀ o1, (wq.alloc o1).cell? ⟨w1.heap.size, 0, none⟩ = some (.slice A n d) := fun o1 => cell_on ((Below.refl _ _).alloc (Nat.le_refl _) o1) e0
      rw [HR] at R1
      rw [hln] at HO hlen
      obtain ⟨l, hl⟩ : ∃ y, (logR s).list = y := ⟨_, rfl⟩
      rw [hl] at R1 HO
      rw [hc]
      clear HS hc hl hln HR
      go_wp2_with (first | (go_at_call 160; refine (implIsName_any _ _ htz).mono ?_; rintro e w2 ⟨rfl, rfl⟩) | (go_at_call 79; refine (within_any _ _ _ _).mono ?_; rintro e w2 ⟨rfl, rfl⟩) | fail "n")
      clear e0 e0'
      have hz1 := HB.out.size
      have acc0 := Acc.made wq 2 1
      clear hwq
      go_loopw [8, 30] (fun out i wr => ∃ (k : Nat) (A' : Option Addr) (q d' : Nat), k ≤ n ∧ i = .int .i64 k ∧ out = .slice A' q d' ∧ q = (valsTo l t k).length ∧ Acc wq.heap.size wq.heap.size 2 1 wq wr A' q d' (ints (valsTo l t k))) (fun _ i _ => n - (RowKit.intOf i).toNat)
      case atStart => exact ⟨0, _, _, _, Nat.zero_le _, rfl, rfl, rfl, acc0⟩
      case round =>
        obtain ⟨k, A', q, d', hk, rfl, rfl, hq, hacc⟩ := hrel
        have HA0 := Lib.hid hacc
        have hvl := valsTo_len l t k
        have hql : q ≤ 4000 := by omega
        clear acc0 hacc
        have hbel := HA0.out.below (B := wq.heap.size) (Nat.le_refl _) (Nat.le_refl _)
        by_cases hlt : k < n
        · obtain ⟨x, b, off, he, rfl, hb, c0, c1, c2⟩ := en_at (R1.on (Nat.le_refl _) hbel) hlt
          have HY := Lib.hid (fun h2 => valsTo_yes (t := t) he h2)
          have HN := Lib.hid (fun h2 => valsTo_no (t := t) he h2)
          have hi0 : (0 : Int) ≤ k := by omega
          have hi1 : (k : Int) < n := by omega
          have HA := Lib.hid (HA0.out.on ((Below.refl wr.heap.size wr).alloc (Nat.le_refl _) (.cells #[.int .i64 x.day, .string x.what, .int .i64 x.val] 145)) (Nat.le_refl _))
          subst hq
          clear he hbel hvl
          rcases hw : isW x t with _ | _
          · have HX := Lib.hid hw
            have hw2 : (x.what.toList == t.toList) = false := hw
            clear hw
            go_wp2
            go_roundw
            case rel => exact ⟨k + 1, _, _, _, by omega, by go_num, rfl, by rw [HN.out HX.out], by rw [HN.out HX.out]; exact HA.out⟩
            case measure => simp [RowKit.intOf]; omega
          · have HX := Lib.hid hw
            have hw2 : (x.what.toList == t.toList) = true := hw
            clear hw
            go_wp2_with (at_builtin; refine wpList_accAt rfl _ _ 29 rfl 2 _ 1 8 Tryz.underlying29 info_i64L rfl (by decide) (by decide) HA.out (Nat.le_refl _) rfl (wr.heap.size + 1) (by simp) [.int .i64 x.val] rfl rfl (fun u hu => by simp at hu; subst hu; rfl) (by omega) ?_; intro A2 d2 w9 hacc2; have HA2 := Lib.hid hacc2; clear hacc2)
            go_roundw
            case rel => exact ⟨k + 1, _, _, _, by omega, by go_num, rfl, by rw [HY.out HX.out, List.length_append]; rfl, by rw [HY.out HX.out, ← ints_snocL]; exact HA2.out⟩
            case measure => simp [RowKit.intOf]; omega
        · obtain rfl : k = n := by omega
          subst hq
          have HF := Lib.hid (bnext HB.out hbel (Nat.le_refl _))
          have hkk : ¬ ((k : Int) < (k : Int)) := by omega
          clear hbel
          go_wp2
          go_ret2
          rw [HW.out]
          refine ⟨_, _, _, rfl, ?_, HF.out⟩
          rw [HO.out]
          exact (HA0.out.sl (lo := w.heap.size) (by omega) (by omega))
  · have HW := Lib.hid (whatF_bad (t := t) hc)
    have HO := Lib.hid (valsF_bad (s := s) (t := t) (by rw [HW.out]; exact hc))
    go_enter Tryz.func92, Tryz.ntmps92
    go_wp2_with fail
    refine HC.out.mono ?_
    rintro e w1 ⟨A, n, d, rfl, hsl, b1⟩
    have yb' : Blk (w1.alloc (.cells #[.slice A n d, .int .i64 (codeR s).stamp, .int .i64 ((codeR s).at_ : Int)] 150)) w1.heap.size 150 #[.slice A n d, .int .i64 (codeR s).stamp, .int .i64 ((codeR s).at_ : Int)] := Blk.new _ _ _
    have HS := Lib.hid (hsl.on ((Below.refl w1.heap.size w1).alloc (Nat.le_refl _) (.cells #[.slice A n d, .int .i64 (codeR s).stamp, .int .i64 ((codeR s).at_ : Int)] 150))).low
    have HB := Lib.hid (b1.alloc b1.size (.cells #[.slice A n d, .int .i64 (codeR s).stamp, .int .i64 ((codeR s).at_ : Int)] 150))
    have e0 := yb'.cellAt 0 (by simp)
    clear yb' hsl b1
    obtain ⟨v, hv⟩ : ∃ v, codeF s = v := ⟨_, rfl⟩
    rw [hv] at hc HW ⊢
    have hq : (v != 0) = true := by simpa using hc
    have hq2 : (v == 0) = false := by simpa using hc
    clear hc hv
    go_wp2
    go_ret2
    rw [HW.out]
    refine ⟨_, _, _, rfl, ?_, HB.out⟩
    rw [HO.out]
    exact Sl.nil _ _ _ _ _
end Go.Proofs.YtjalgpioklcbfaaGreatDoor
namespace Go.Proofs.YtjalgpioklcbfaaGreatDoor
open Go.RowKit

theorem a2Long_any (A : Option Addr) (n c : Nat) (A' : Option Addr) (n' c' : Nat) (w : World) (hn : n ≤ 9223372036854775807) (hn' : n' ≤ 9223372036854775807) :
    Calls Tryz.prog 6 #[.slice A n c, .slice A' n' c'] w fun e w' => e = .returned (.bool (decide (3000 < n) || decide (3000 < n'))) ∧ w = w' := by
  by_cases h : 3000 < n
  · rw [decide_eq_true h]
    go_enter Tryz.func6, Tryz.ntmps6
    go_wp2
    go_ret
    exact ⟨ret_bool (by simp <;> omega), rfl⟩
  · have h1 : decide (3000 < n) = false := decide_eq_false h
    by_cases h' : 3000 < n'
    · rw [h1, decide_eq_true h']
      go_enter Tryz.func6, Tryz.ntmps6
      go_wp2
      go_ret
      exact ⟨ret_bool (by simp <;> omega), rfl⟩
    · have h2 : decide (3000 < n') = false := decide_eq_false h'
      rw [h1, h2]
      go_enter Tryz.func6, Tryz.ntmps6
      go_wp2
      go_ret
      exact ⟨ret_bool (by simp <;> omega), rfl⟩
end Go.Proofs.YtjalgpioklcbfaaGreatDoor
namespace Go.Proofs.YtjalgpioklcbfaaGreatDoor
open Go.RowKit Go.Lib

def hasW (xs : List ByteArray) (t : ByteArray) : Bool := xs.any (fun y => t.toList == y.toList)
theorem strv_at {w : World} {B n k : Nat} {A : Option Addr} {l : List ByteArray} (h : Reads w B 1 A n (strs l)) (hk : k < n) :
    ∃ (x : ByteArray) (b off : Nat), l[k]? = some x ∧ A = some ⟨b, off, none⟩ ∧ b < B ∧ w.cell? ⟨b, off + k, none⟩ = some (.string x) := by
  obtain ⟨b, off, rfl, hb, hcell⟩ := h.at_ (by omega)
  have hl : l.length = n := by have := h.1; rw [strs_length] at this; omega
  have he : l[k]? = some l[k] := List.getElem?_eq_getElem (by omega)
  exact ⟨_, b, off, he, rfl, hb, hcell _ _ (strs_get he)⟩
set_option maxHeartbeats 4000000 in
set_option maxRecDepth 100000 in
theorem slicesIndex_any (A : Option Addr) (n c B : Nat) (l : List ByteArray) (t : ByteArray) (w : World) (h : Reads w B 1 A n (strs l)) (hn : n ≤ 1048576) :
    Calls Tryz.prog 73 #[.slice A n c, .string t] w fun e w' => e = .returned (.int .i64 (idxI (fun y => t.toList == y.toList) l)) ∧ w = w' := by
  have hl := Lib.hid (show l.length = n by have := h.1; rw [strs_length] at this; omega)
  go_enter Tryz.func73, Tryz.ntmps73
  go_wp2
  go_loop [8] (fun i => ∃ k : Nat, k ≤ n ∧ i = .int .i64 k ∧ AllTo (fun y : ByteArray => !(t.toList == y.toList)) l k) (fun i => n - (RowKit.intOf i).toNat)
  case atStart => exact ⟨0, Nat.zero_le _, rfl, AllTo.zero _ _⟩
  case round =>
    obtain ⟨k, hk, rfl, hall⟩ := hrel
    have HA := Lib.hid hall
    clear hall
    by_cases hlt : k < n
    · obtain ⟨x, b, off, he, rfl, hb, c0⟩ := strv_at h hlt
      have HE := Lib.hid he
      have hi0 : (0 : Int) ≤ k := by omega
      have hi1 : (k : Int) < n := by omega
      clear he
      rcases hx : (t.toList == x.toList) with _ | _
      · have HX := Lib.hid (show (!(t.toList == x.toList)) = true by rw [hx]; rfl)
        go_wp2
        go_round
        case rel => exact ⟨k + 1, by omega, by go_num, HA.out.step HE.out HX.out⟩
        case measure => simp [RowKit.intOf]; omega
      · have HO := Lib.hid (idxI_found (p := fun y : ByteArray => t.toList == y.toList) HE.out hx HA.out)
        go_wp2
        go_ret
        exact ⟨ret_int HO.out.symm, rfl⟩
    · obtain rfl : k = n := by omega
      have HO := Lib.hid (idxI_none (p := fun y : ByteArray => t.toList == y.toList) HA.out hl.out)
      have hkk : ¬ ((k : Int) < (k : Int)) := by omega
      go_wp2
      go_ret
      exact ⟨ret_int HO.out.symm, rfl⟩
set_option maxHeartbeats 4000000 in
set_option maxRecDepth 100000 in
theorem slicesContains_any (A : Option Addr) (n c B : Nat) (l : List ByteArray) (t : ByteArray) (w : World) (h : Reads w B 1 A n (strs l)) (hn : n ≤ 1048576) :
    Calls Tryz.prog 31 #[.slice A n c, .string t] w fun e w' => e = .returned (.bool (hasW l t)) ∧ w = w' := by
  have HO := Lib.hid (show decide (0 ≤ idxI (fun y : ByteArray => t.toList == y.toList) l) = hasW l t from idxI_nonneg _ l)
  have HC := Lib.hid (slicesIndex_any A n c B l t w h hn)
  clear h
  go_enter Tryz.func31, Tryz.ntmps31
  go_wp2_with fail
  refine HC.out.mono ?_
  rintro e w1 ⟨rfl, rfl⟩
  go_wp2
  go_ret
  exact ⟨ret_bool HO.out, rfl⟩
end Go.Proofs.YtjalgpioklcbfaaGreatDoor
namespace Go.Proofs.YtjalgpioklcbfaaGreatDoor
open Go.RowKit

/-- The block in which a slice lies. -/
def inB (A : Option Addr) (b : Nat) : Prop := ∃ ad, A = some ad ∧ ad.block = b
/-- Of what was there only the blocks of S may have turned. -/
structure Off (S : Nat → Prop) (w w' : World) : Prop where
  os : w'.os = w.os
  tape : w'.tape = w.tape
  output : w'.output = w.output
  size : w.heap.size ≤ w'.heap.size
  block : ∀ k, k < w.heap.size → ¬ S k → w'.heap[k]? = w.heap[k]?
section
variable {S S' : Nat → Prop} {a b w w' : World} {B lo hi : Nat}
theorem Off.refl (S : Nat → Prop) (w : World) : Off S w w := ⟨rfl, rfl, rfl, Nat.le_refl _, fun _ _ _ => rfl⟩
theorem Off.trans (h : Off S a b) (k : Off S b w) : Off S a w :=
  ⟨k.os.trans h.os, k.tape.trans h.tape, k.output.trans h.output, Nat.le_trans h.size k.size, fun i hi hn => (k.block i (Nat.lt_of_lt_of_le hi h.size) hn).trans (h.block i hi hn)⟩
theorem Off.mono (h : Off S a w) (hs : ∀ b, S b → S' b) : Off S' a w := ⟨h.os, h.tape, h.output, h.size, fun k hk hn => h.block k hk fun hk' => hn (hs k hk')⟩
theorem Off.of_below (h : Below w.heap.size w w') (S : Nat → Prop) : Off S w w' := ⟨h.os, h.tape, h.output, h.size, fun k hk _ => h.block k hk⟩
theorem Off.setCell (h : Off S a w) {p : Addr} (hp : S p.block) (u : Value) : Off S a (w.setCell p u) :=
  ⟨h.os, h.tape, h.output, by simpa [World.setCell] using h.size, fun i hi hn => (Below.heap_setCell w p u i (fun e => hn (by rw [e]; exact hp))).trans (h.block i hi hn)⟩
theorem Off.below (h : Off S w w') (hs : ∀ b, S b → B ≤ b) (hB : B ≤ w.heap.size) : Below B w w' := ⟨h.os, h.tape, h.output, h.size, fun k hk => h.block k (by omega) fun hk' => by have := hs k hk'; omega⟩
theorem Blk.keepOnly {g : Nat} {t : TypeId} {cs : Array Value} (h : Blk w g t cs) (ho : Only lo hi w w') (hg : g < lo ∨ hi ≤ g) : Blk w' g t cs := (ho.block g h.lt hg).trans h
/-- A row that lies in none of these blocks stands. -/
theorem Sl.off {t : TypeId} {size n c : Nat} {A : Option Addr} {xs : List Value} (h : Sl w lo hi t size A n c xs) (ho : Off S w w') (hs : ∀ b, inB A b → ¬ S b) : Sl w' lo hi t size A n c xs := by
  refine ⟨⟨h.1.1, ?_⟩, h.2⟩
  rcases h.1.2 with hn | ⟨g, cap, cur, h', hb, hg, rest⟩
  · exact .inl hn
  · refine .inr ⟨g, cap, cur, h', hb, ?_, rest⟩
    injection h' with h1
    exact (ho.block g (Array.getElem?_eq_some_iff.1 hg).1 (hs g ⟨_, h1, rfl⟩)).trans hg
theorem Sl.inB_lt {t : TypeId} {size n c : Nat} {A : Option Addr} {xs : List Value} (h : Sl w lo hi t size A n c xs) {b : Nat} (hb : inB A b) : lo ≤ b ∧ b < hi := by
  obtain ⟨ad, rfl, rfl⟩ := hb
  rcases h.form with ⟨h0, _⟩ | ⟨g, cur, h1, h2, h3, _⟩
  · cases h0
  · injection h1 with h1; subst h1; exact ⟨h2, h3⟩
theorem Sl.inB_heap {t : TypeId} {size n c : Nat} {A : Option Addr} {xs : List Value} (h : Sl w lo hi t size A n c xs) {b : Nat} (hb : inB A b) : b < w.heap.size := by
  have := h.low.inB_lt hb
  exact this.2
end
theorem inB_nil {b : Nat} : ¬ inB none b := fun ⟨_, h, _⟩ => by cases h

/-- Runs in blocks of one's own, each apart from all others. -/
structure OwnR (w : World) (lo hi : Nat) (A : Option Addr) (n c : Nat) (rs : List Rn) (rh : List RnH) : Prop where
  row : Sl w lo hi 123 2 A n c (rns rh)
  len : rs.length = n
  at_ : ∀ (i : Nat) (h : RnH) (r : Rn), rh[i]? = some h → rs[i]? = some r → h.st = r.st ∧ h.m ≤ 9223372036854775807 ∧ Sl w lo hi 2 1 h.A h.m h.c (ints r.way)
  ne : ∀ (i : Nat) (h : RnH), rh[i]? = some h → ∀ b, inB h.A b → ¬ inB A b
  ne2 : ∀ (i j : Nat) (h h' : RnH), i ≠ j → rh[i]? = some h → rh[j]? = some h' → ∀ b, inB h.A b → ¬ inB h'.A b
/-- The blocks of runs. -/
def inRn (A : Option Addr) (rh : List RnH) (b : Nat) : Prop := inB A b ∨ ∃ (i : Nat) (h : RnH), rh[i]? = some h ∧ inB h.A b
section
variable {w w' : World} {lo hi lo' hi' n c : Nat} {A : Option Addr} {rs : List Rn} {rh : List RnH} {S : Nat → Prop}
theorem OwnR.hlen (h : OwnR w lo hi A n c rs rh) : rh.length = n := by have := h.row.len; rw [rns_length] at this; omega
theorem OwnR.get (h : OwnR w lo hi A n c rs rh) {i : Nat} {x : RnH} (hx : rh[i]? = some x) : ∃ r, rs[i]? = some r := by
  have := (List.getElem?_eq_some_iff.1 hx).1
  exact ⟨_, List.getElem?_eq_getElem (by rw [h.len, ← h.hlen]; exact this)⟩
theorem OwnR.inRn_lt (h : OwnR w lo hi A n c rs rh) {b : Nat} (hb : inRn A rh b) : lo ≤ b ∧ b < hi := by
  rcases hb with hb | ⟨i, x, hx, hb⟩
  · exact h.row.inB_lt hb
  · obtain ⟨r, hr⟩ := h.get hx
    exact (h.at_ i x r hx hr).2.2.inB_lt hb
theorem OwnR.off (h : OwnR w lo hi A n c rs rh) (ho : Off S w w') (hs : ∀ b, inRn A rh b → ¬ S b) : OwnR w' lo hi A n c rs rh :=
  ⟨h.row.off ho fun b hb => hs b (.inl hb), h.len, fun i x r hx hr => ⟨(h.at_ i x r hx hr).1, (h.at_ i x r hx hr).2.1, (h.at_ i x r hx hr).2.2.off ho fun b hb => hs b (.inr ⟨i, x, hx, hb⟩)⟩, h.ne, h.ne2⟩
theorem OwnR.on (h : OwnR w lo hi A n c rs rh) (hb : Below w.heap.size w w') : OwnR w' lo hi A n c rs rh :=
  ⟨h.row.on hb, h.len, fun i x r hx hr => ⟨(h.at_ i x r hx hr).1, (h.at_ i x r hx hr).2.1, (h.at_ i x r hx hr).2.2.on hb⟩, h.ne, h.ne2⟩
theorem OwnR.wide (h : OwnR w lo hi A n c rs rh) (h1 : lo' ≤ lo) (h2 : hi ≤ hi') : OwnR w lo' hi' A n c rs rh :=
  ⟨h.row.wide h1 h2, h.len, fun i x r hx hr => ⟨(h.at_ i x r hx hr).1, (h.at_ i x r hx hr).2.1, (h.at_ i x r hx hr).2.2.wide h1 h2⟩, h.ne, h.ne2⟩
theorem OwnR.low (h : OwnR w lo hi A n c rs rh) : OwnR w lo w.heap.size A n c rs rh :=
  ⟨h.row.low, h.len, fun i x r hx hr => ⟨(h.at_ i x r hx hr).1, (h.at_ i x r hx hr).2.1, (h.at_ i x r hx hr).2.2.low⟩, h.ne, h.ne2⟩
theorem OwnR.reads (h : OwnR w lo hi A n c rs rh) {B : Nat} (hB : hi ≤ B) : RunsR w B A n rs :=
  ⟨rh, h.row.reads hB, h.len, fun i x r hx hr => ⟨(h.at_ i x r hx hr).1, (h.at_ i x r hx hr).2.1, (h.at_ i x r hx hr).2.2.reads hB⟩⟩
theorem OwnR.nil (w : World) (lo hi : Nat) : OwnR w lo hi none 0 0 [] [] := ⟨Sl.nil _ _ _ _ _, rfl, fun i x r hx => by simp at hx, fun i x hx => by simp at hx, fun i j x x' _ hx => by simp at hx⟩
end
/-- A desk in blocks of one's own, all rows apart. -/
structure OwnD (w : World) (lo hi : Nat) (h : DkH) (d : Dk) (rh : List RnH) : Prop where
  tubes : Sl w lo hi 101 3 h.A1 h.n1 h.c1 (tbs d.net.tubes)
  times : Sl w lo hi 2 1 h.A2 h.n2 h.c2 (ints d.times)
  runs : OwnR w lo hi h.A3 h.n3 h.c3 d.runs rh
  n12 : ∀ b, inB h.A1 b → ¬ inB h.A2 b
  n1r : ∀ b, inB h.A1 b → ¬ inRn h.A3 rh b
  n2r : ∀ b, inB h.A2 b → ¬ inRn h.A3 rh b
def inD (h : DkH) (rh : List RnH) (b : Nat) : Prop := inB h.A1 b ∨ inB h.A2 b ∨ inRn h.A3 rh b
section
variable {w w' : World} {lo hi lo' hi' : Nat} {h : DkH} {d : Dk} {rh : List RnH} {S : Nat → Prop}
theorem OwnD.on (k : OwnD w lo hi h d rh) (hb : Below w.heap.size w w') : OwnD w' lo hi h d rh := ⟨k.tubes.on hb, k.times.on hb, k.runs.on hb, k.n12, k.n1r, k.n2r⟩
theorem OwnD.wide (k : OwnD w lo hi h d rh) (h1 : lo' ≤ lo) (h2 : hi ≤ hi') : OwnD w lo' hi' h d rh := ⟨k.tubes.wide h1 h2, k.times.wide h1 h2, k.runs.wide h1 h2, k.n12, k.n1r, k.n2r⟩
theorem OwnD.low (k : OwnD w lo hi h d rh) : OwnD w lo w.heap.size h d rh := ⟨k.tubes.low, k.times.low, k.runs.low, k.n12, k.n1r, k.n2r⟩
theorem OwnD.off (k : OwnD w lo hi h d rh) (ho : Off S w w') (hs : ∀ b, inD h rh b → ¬ S b) : OwnD w' lo hi h d rh :=
  ⟨k.tubes.off ho fun b hb => hs b (.inl hb), k.times.off ho fun b hb => hs b (.inr (.inl hb)), k.runs.off ho fun b hb => hs b (.inr (.inr hb)), k.n12, k.n1r, k.n2r⟩
theorem OwnD.reads (k : OwnD w lo hi h d rh) {B : Nat} (hB : hi ≤ B) : DkR w B h d := ⟨k.tubes.reads hB, k.times.reads hB, k.runs.reads hB⟩
theorem OwnD.inD_lt (k : OwnD w lo hi h d rh) {b : Nat} (hb : inD h rh b) : lo ≤ b ∧ b < hi := by
  rcases hb with hb | hb | hb
  · exact k.tubes.inB_lt hb
  · exact k.times.inB_lt hb
  · exact k.runs.inRn_lt hb
end
-- the marks
end Go.Proofs.YtjalgpioklcbfaaGreatDoor
namespace Go.Proofs.YtjalgpioklcbfaaGreatDoor
open Go.RowKit

end Go.Proofs.YtjalgpioklcbfaaGreatDoor
namespace Go.Proofs.YtjalgpioklcbfaaGreatDoor
open Go.RowKit

theorem Blk.off {w w' : World} {g : Nat} {t : TypeId} {cs : Array Value} {S : Nat → Prop} (h : Blk w g t cs) (ho : Off S w w') (hs : ¬ S g) : Blk w' g t cs := (ho.block g h.lt hs).trans h
theorem Reads.off {w w' : World} {lo hi size n c : Nat} {t : TypeId} {A : Option Addr} {xs : List Value} {S : Nat → Prop} (h : Sl w lo hi t size A n c xs) (ho : Off S w w') (hs : ∀ b, inB A b → ¬ S b) {B : Nat} (hB : hi ≤ B) : Reads w' B size A n xs := (h.off ho hs).reads hB
end Go.Proofs.YtjalgpioklcbfaaGreatDoor
