/- EntriesOf, ValuesOf, SumOfWhat, both sides. -/
import Derived.Test.YtjmlcobbjpmjpaaDoorRead
import Derived.Test.YtjmlcobbjpmjpaaDoorName
import Derived.Test.YtjmlcobbjpmjpaaDoorRng
set_option linter.unusedVariables false
set_option linter.unusedSimpArgs false
namespace Go.Proofs.YtjmlcobbjpmjpaaDoor
open Go.RowKit Go.Lib

theorem ints_snocL (xs : List Int) (x : Int) : ints xs ++ [.int .i64 x] = ints (xs ++ [x]) := by simp [ints]
theorem info_i64L : (Tryd.prog.info? 2).map (fun i => (i.zero, i.size, i.bytes)) = some (some (.int .i64 0), 1, 8) := by kernel_rfl
theorem codeF_small {s : ByteArray} (h : codeF s = 0) : s.size ≤ 4000 := by
  unfold codeF at h
  split at h
  · cases h
  · omega
theorem codeR_len (s : ByteArray) : (codeR s).list.length ≤ 4000 := by
  unfold codeR
  split
  · rename_i h
    have h1 := codeF_small h
    have h2 := (logR_ok s).len
    have h3 := logR_at s
    omega
  · simp
theorem logR_len {s : ByteArray} (h : codeF s = 0) : (logR s).list.length ≤ 4000 := by
  have := codeR_len s
  rw [codeR_ok h] at this
  exact this
theorem cntEntriesOf_len {s : ByteArray} {m : Nat} (h : (ens (codeR s).list).length = m * 3) : m ≤ 1048576 := by
  rw [ens_length] at h
  have := codeR_len s
  omega
set_option maxHeartbeats 4000000 in
set_option maxRecDepth 100000 in
theorem specEntriesOf_any (s : ByteArray) (w : World) (hs : s.size ≤ 1048576) :
    Calls Tryd.prog 25 #[.string s] w fun e w' => ∃ A m d, e = .returned (.tuple #[.slice A m d, .int .i64 (codeF s)]) ∧ Sl w' w.heap.size w'.heap.size 41 3 A m d (ens (codeR s).list) ∧ Below w.heap.size w w' := by
  by_cases hc : codeF s = 0
  · have HR := Lib.hid (codeR_ok hc)
    go_enter Tryd.func25, Tryd.ntmps25
    go_wp2_with fail
    refine (l27Code_any s _ hs).mono ?_
    rintro e w1 ⟨g, rfl, hrec, b1⟩
    obtain ⟨A, n, d, y1, hsl, hne, hlg⟩ := hrec hc
    rw [hc]
    have q3 : w1.cell? ⟨g, 3, none⟩ = some (.slice A n d) := y1.cellAt 3 (by simp)
    have HS := Lib.hid hsl
    have HB := Lib.hid b1
    have HC0 := Lib.hid hc
    clear hrec y1 hsl hne b1 hc
    go_wp2
    go_ret2
    exact ⟨A, n, d, by rw [HC0.out]; rfl, by rw [HR.out]; exact HS.out, HB.out⟩
  · have HR := Lib.hid (codeR_bad hc)
    go_enter Tryd.func25, Tryd.ntmps25
    go_wp2_with fail
    refine (l27Code_any s _ hs).mono ?_
    rintro e w1 ⟨g, rfl, hrec, b1⟩
    have HB := Lib.hid b1
    clear hrec b1
    obtain ⟨v, hv⟩ : ∃ v, codeF s = v := ⟨_, rfl⟩
    have HV2 := Lib.hid hv
    rw [hv] at hc ⊢
    have hq : (v != 0) = true := by simpa using hc
    have hq2 : (v == 0) = false := by simpa using hc
    clear hc hv
    go_wp2
    go_ret2
    exact ⟨_, _, _, by rw [HV2.out]; rfl, by rw [HR.out]; exact Sl.nil _ _ _ _ _, HB.out⟩
set_option maxHeartbeats 4000000 in
set_option maxRecDepth 100000 in
theorem implEntriesOf_any (s : ByteArray) (m : Int) (w : World) (hs : s.size ≤ 1048576) (hm : w.cell? ⟨1, 0, none⟩ = some (.int .i64 m)) (ht : TabP w) (hv : SynP w) :
    Calls Tryd.prog 20 #[.string s] w fun e w' => ∃ A m d, e = .returned (.tuple #[.slice A m d, .int .i64 (codeF s)]) ∧ Sl w' w.heap.size w'.heap.size 41 3 A m d (ens (codeR s).list) ∧ Below w.heap.size w w' := by
  have HC := Lib.hid (logCode_any s m w hs hm ht hv)
  clear ht hv hm
  go_enter Tryd.func20, Tryd.ntmps20
  go_wp2_with fail
  refine HC.out.mono ?_
  rintro e w1 ⟨A, n, d, rfl, hsl, b1⟩
  have yb' : Blk (w1.alloc (.cells #[.slice A n d, .int .i64 (codeR s).stamp, .int .i64 ((codeR s).at_ : Int)] 79)) w1.heap.size 79 #[.slice A n d, .int .i64 (codeR s).stamp, .int .i64 ((codeR s).at_ : Int)] := Blk.new _ _ _
  have HS := Lib.hid (hsl.on ((Below.refl w1.heap.size w1).alloc (Nat.le_refl _) (.cells #[.slice A n d, .int .i64 (codeR s).stamp, .int .i64 ((codeR s).at_ : Int)] 79))).low
  have HB := Lib.hid (b1.alloc b1.size (.cells #[.slice A n d, .int .i64 (codeR s).stamp, .int .i64 ((codeR s).at_ : Int)] 79))
  have e0 := yb'.cellAt 0 (by simp)
  clear yb' hsl b1
  go_wp2
  go_ret2
  exact ⟨A, n, d, rfl, HS.out, HB.out⟩

def isW (x : En) (t : ByteArray) : Bool := x.what.toList == t.toList
def valsTo (l : List En) (t : ByteArray) : Nat → List Int
  | 0 => []
  | k + 1 => match l[k]? with
    | none => valsTo l t k
    | some x => if isW x t = true then valsTo l t k ++ [x.val] else valsTo l t k
theorem valsTo_yes {l : List En} {t : ByteArray} {k : Nat} {x : En} (h : l[k]? = some x) (h2 : isW x t = true) : valsTo l t (k + 1) = valsTo l t k ++ [x.val] := by simp [valsTo, h, h2]
theorem valsTo_no {l : List En} {t : ByteArray} {k : Nat} {x : En} (h : l[k]? = some x) (h2 : isW x t = false) : valsTo l t (k + 1) = valsTo l t k := by simp [valsTo, h, h2]
theorem valsTo_len (l : List En) (t : ByteArray) : ∀ k, (valsTo l t k).length ≤ k
  | 0 => by simp [valsTo]
  | k + 1 => by
    have := valsTo_len l t k
    rw [valsTo]
    split
    · omega
    · split
      · simp; omega
      · omega
def whatF (s t : ByteArray) : Int := if codeF s = 0 then (if isName t = true then 0 else 2) else codeF s
theorem whatF_bad {s t : ByteArray} (h : codeF s ≠ 0) : whatF s t = codeF s := by simp [whatF, h]
theorem whatF_name {s t : ByteArray} (h : codeF s = 0) (h2 : isName t = false) : whatF s t = 2 := by simp [whatF, h, h2]
theorem whatF_ok {s t : ByteArray} (h : codeF s = 0) (h2 : isName t = true) : whatF s t = 0 := by simp [whatF, h, h2]
theorem whatF_zero {s t : ByteArray} (h : whatF s t = 0) : codeF s = 0 ∧ isName t = true := by
  unfold whatF at h
  split at h
  · rename_i h1
    refine ⟨h1, ?_⟩
    split at h
    · assumption
    · cases h
  · rename_i h1; exact absurd h h1
def valsF (s t : ByteArray) : List Int := if whatF s t = 0 then valsTo (logR s).list t (logR s).list.length else []
theorem valsF_ok {s t : ByteArray} (h : whatF s t = 0) : valsF s t = valsTo (logR s).list t (logR s).list.length := by simp only [valsF, h, if_true]
theorem valsF_bad {s t : ByteArray} (h : whatF s t ≠ 0) : valsF s t = [] := by simp only [valsF, h, if_false]
theorem cntValuesOf_len {s t : ByteArray} {m : Nat} (h : (ints (valsF s t)).length = m * 1) : m ≤ 1048576 := by
  rw [ints_length] at h
  by_cases hw : whatF s t = 0
  · rw [valsF_ok hw] at h
    have h1 := valsTo_len (logR s).list t (logR s).list.length
    have h2 := logR_len (whatF_zero hw).1
    omega
  · rw [valsF_bad hw] at h
    simp at h
    omega
set_option maxHeartbeats 4000000 in
set_option maxRecDepth 100000 in
theorem implValuesOf_any (s t : ByteArray) (m : Int) (w : World) (hs : s.size ≤ 1048576) (hts : t.size ≤ 1048576) (hm : w.cell? ⟨1, 0, none⟩ = some (.int .i64 m)) (ht : TabP w) (hv : SynP w) :
    Calls Tryd.prog 17 #[.string s, .string t] w fun e w' => ∃ A m d, e = .returned (.tuple #[.slice A m d, .int .i64 (whatF s t)]) ∧ Sl w' w.heap.size w'.heap.size 2 1 A m d (ints (valsF s t)) ∧ Below w.heap.size w w' := by
  have HC := Lib.hid (logCode_any s m w hs hm ht hv)
  have htz : t.size ≤ 9223372036854775807 := by omega
  clear ht hv hm
  by_cases hc : codeF s = 0
  · rcases hN : isName t with _ | _
    · have HW := Lib.hid (whatF_name hc hN)
      have HO := Lib.hid (valsF_bad (s := s) (t := t) (by rw [HW.out]; decide))
      go_enter Tryd.func17, Tryd.ntmps17
      go_wp2_with fail
      refine HC.out.mono ?_
      rintro e w1 ⟨A, n, d, rfl, hsl, b1⟩
      have yb' : Blk (w1.alloc (.cells #[.slice A n d, .int .i64 (codeR s).stamp, .int .i64 ((codeR s).at_ : Int)] 79)) w1.heap.size 79 #[.slice A n d, .int .i64 (codeR s).stamp, .int .i64 ((codeR s).at_ : Int)] := Blk.new _ _ _
      have HS := Lib.hid (hsl.on ((Below.refl w1.heap.size w1).alloc (Nat.le_refl _) (.cells #[.slice A n d, .int .i64 (codeR s).stamp, .int .i64 ((codeR s).at_ : Int)] 79))).low
      have HB := Lib.hid (b1.alloc b1.size (.cells #[.slice A n d, .int .i64 (codeR s).stamp, .int .i64 ((codeR s).at_ : Int)] 79))
      have e0 := yb'.cellAt 0 (by simp)
      clear yb' hsl b1
      rw [hc]
      clear hc
      go_wp2_with (first | (go_at_call 57; refine (implIsName_any _ _ htz).mono ?_; rintro e w2 ⟨rfl, rfl⟩) | (go_at_call 58; refine (within_any _ _ _ _).mono ?_; rintro e w2 ⟨rfl, rfl⟩) | fail "n")
      go_ret2
      rw [HW.out]
      refine ⟨_, _, _, rfl, ?_, HB.out⟩
      rw [HO.out]
      exact Sl.nil _ _ _ _ _
    · have HW := Lib.hid (whatF_ok hc hN)
      have HO := Lib.hid (valsF_ok HW.out)
      have hlen := logR_len hc
      have HR := codeR_ok hc
      go_enter Tryd.func17, Tryd.ntmps17
      go_wp2_with fail
      refine HC.out.mono ?_
      rintro e w1 ⟨A, n, d, rfl, hsl, b1⟩
      have yb' : Blk (w1.alloc (.cells #[.slice A n d, .int .i64 (codeR s).stamp, .int .i64 ((codeR s).at_ : Int)] 79)) w1.heap.size 79 #[.slice A n d, .int .i64 (codeR s).stamp, .int .i64 ((codeR s).at_ : Int)] := Blk.new _ _ _
      have HS := Lib.hid (hsl.on ((Below.refl w1.heap.size w1).alloc (Nat.le_refl _) (.cells #[.slice A n d, .int .i64 (codeR s).stamp, .int .i64 ((codeR s).at_ : Int)] 79))).low
      have HB := Lib.hid (b1.alloc b1.size (.cells #[.slice A n d, .int .i64 (codeR s).stamp, .int .i64 ((codeR s).at_ : Int)] 79))
      have e0 := yb'.cellAt 0 (by simp)
      clear yb' hsl b1
      have hln : (logR s).list.length = n := by have := HS.out.len; rw [HR, ens_length] at this; omega
      have R1 := HS.out.reads (Nat.le_refl _)
      obtain ⟨wq, hwq⟩ : ∃ y, w1.alloc (.cells #[.slice A n d, .int .i64 (codeR s).stamp, .int .i64 ((codeR s).at_ : Int)] 79) = y := ⟨_, rfl⟩
      rw [hwq] at R1 HB e0
      have e0' : ∀ o1, (wq.alloc o1).cell? ⟨w1.heap.size, 0, none⟩ = some (.slice A n d) := fun o1 => cell_on ((Below.refl _ _).alloc (Nat.le_refl _) o1) e0
      rw [HR] at R1
      rw [hln] at HO hlen
      obtain ⟨l, hl⟩ : ∃ y, (logR s).list = y := ⟨_, rfl⟩
      rw [hl] at R1 HO
      rw [hc]
      clear HS hc hl hln HR
      go_wp2_with (first | (go_at_call 57; refine (implIsName_any _ _ htz).mono ?_; rintro e w2 ⟨rfl, rfl⟩) | (go_at_call 58; refine (within_any _ _ _ _).mono ?_; rintro e w2 ⟨rfl, rfl⟩) | fail "n")
      clear e0 e0'
      have hz1 := HB.out.size
      have acc0 := Acc.made wq 2 1
      clear hwq
      go_loopw [8, 30] (fun out i wr => ∃ (k : Nat) (A' : Option Addr) (q d' : Nat), k ≤ n ∧ i = .int .i64 k ∧ out = .slice A' q d' ∧ q = (valsTo l t k).length ∧ Acc wq.heap.size wq.heap.size 2 1 wq wr A' q d' (ints (valsTo l t k))) (fun _ i _ => n - (RowKit.intOf i).toNat)
      case atStart => exact ⟨0, _, _, _, Nat.zero_le _, rfl, rfl, rfl, acc0⟩
      case round =>
        obtain ⟨k, A', q, d', hk, rfl, rfl, hq, hacc⟩ := hrel
        have HA0 := Lib.hid hacc
        have hvl := valsTo_len l t k
        have hql : q ≤ 4000 := by omega
        clear acc0 hacc
        have hbel := HA0.out.below (B := wq.heap.size) (Nat.le_refl _) (Nat.le_refl _)
        by_cases hlt : k < n
        · obtain ⟨x, b, off, he, rfl, hb, c0, c1, c2⟩ := en_at (R1.on (Nat.le_refl _) hbel) hlt
          have HY := Lib.hid (fun h2 => valsTo_yes (t := t) he h2)
          have HN := Lib.hid (fun h2 => valsTo_no (t := t) he h2)
          have hi0 : (0 : Int) ≤ k := by omega
          have hi1 : (k : Int) < n := by omega
          have HA := Lib.hid (HA0.out.on ((Below.refl wr.heap.size wr).alloc (Nat.le_refl _) (.cells #[.int .i64 x.day, .string x.what, .int .i64 x.val] 41)) (Nat.le_refl _))
          subst hq
          clear he hbel hvl
          rcases hw : isW x t with _ | _
          · have HX := Lib.hid hw
            have hw2 : (x.what.toList == t.toList) = false := hw
            clear hw
            go_wp2
            go_roundw
            case rel => exact ⟨k + 1, _, _, _, by omega, by go_num, rfl, by rw [HN.out HX.out], by rw [HN.out HX.out]; exact HA.out⟩
            case measure => simp [RowKit.intOf]; omega
          · have HX := Lib.hid hw
            have hw2 : (x.what.toList == t.toList) = true := hw
            clear hw
            go_wp2_with (at_builtin; refine wpList_accAt rfl _ _ 36 rfl 2 _ 1 8 Tryd.underlying36 info_i64L rfl (by decide) (by decide) HA.out (Nat.le_refl _) rfl (wr.heap.size + 1) (by simp) [.int .i64 x.val] rfl rfl (fun u hu => by simp at hu; subst hu; rfl) (by omega) ?_; intro A2 d2 w9 hacc2; have HA2 := Lib.hid hacc2; clear hacc2)
            go_roundw
            case rel => exact ⟨k + 1, _, _, _, by omega, by go_num, rfl, by rw [HY.out HX.out, List.length_append]; rfl, by rw [HY.out HX.out, ← ints_snocL]; exact HA2.out⟩
            case measure => simp [RowKit.intOf]; omega
        · obtain rfl : k = n := by omega
          subst hq
          have HF := Lib.hid (bnext HB.out hbel (Nat.le_refl _))
          have hkk : ¬ ((k : Int) < (k : Int)) := by omega
          clear hbel
          go_wp2
          go_ret2
          rw [HW.out]
          refine ⟨_, _, _, rfl, ?_, HF.out⟩
          rw [HO.out]
          exact (HA0.out.sl (lo := w.heap.size) (by omega) (by omega))
  · have HW := Lib.hid (whatF_bad (t := t) hc)
    have HO := Lib.hid (valsF_bad (s := s) (t := t) (by rw [HW.out]; exact hc))
    go_enter Tryd.func17, Tryd.ntmps17
    go_wp2_with fail
    refine HC.out.mono ?_
    rintro e w1 ⟨A, n, d, rfl, hsl, b1⟩
    have yb' : Blk (w1.alloc (.cells #[.slice A n d, .int .i64 (codeR s).stamp, .int .i64 ((codeR s).at_ : Int)] 79)) w1.heap.size 79 #[.slice A n d, .int .i64 (codeR s).stamp, .int .i64 ((codeR s).at_ : Int)] := Blk.new _ _ _
    have HS := Lib.hid (hsl.on ((Below.refl w1.heap.size w1).alloc (Nat.le_refl _) (.cells #[.slice A n d, .int .i64 (codeR s).stamp, .int .i64 ((codeR s).at_ : Int)] 79))).low
    have HB := Lib.hid (b1.alloc b1.size (.cells #[.slice A n d, .int .i64 (codeR s).stamp, .int .i64 ((codeR s).at_ : Int)] 79))
    have e0 := yb'.cellAt 0 (by simp)
    clear yb' hsl b1
    obtain ⟨v, hv⟩ : ∃ v, codeF s = v := ⟨_, rfl⟩
    rw [hv] at hc HW ⊢
    have hq : (v != 0) = true := by simpa using hc
    have hq2 : (v == 0) = false := by simpa using hc
    clear hc hv
    go_wp2
    go_ret2
    rw [HW.out]
    refine ⟨_, _, _, rfl, ?_, HB.out⟩
    rw [HO.out]
    exact Sl.nil _ _ _ _ _
end Go.Proofs.YtjmlcobbjpmjpaaDoor
