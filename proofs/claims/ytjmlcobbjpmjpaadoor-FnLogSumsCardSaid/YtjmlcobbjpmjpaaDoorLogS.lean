/- SumOfWhat, both sides. -/
import Derived.Test.YtjmlcobbjpmjpaaDoorLogB
import Derived.IntWalk
set_option linter.unusedVariables false
set_option linter.unusedSimpArgs false
namespace Go.Proofs.YtjmlcobbjpmjpaaDoor
open Go.RowKit Go.Lib

def isD (x : En) (t : ByteArray) (a b : Int) : Bool := isW x t && inR x.day a b
def sumTo (l : List En) (t : ByteArray) (a b : Int) : Nat → Int
  | 0 => 0
  | k + 1 => match l[k]? with
    | none => sumTo l t a b k
    | some x => if isD x t a b = true then sumTo l t a b k + x.val else sumTo l t a b k
theorem sumTo_yes {l : List En} {t : ByteArray} {a b : Int} {k : Nat} {x : En} (h : l[k]? = some x) (h2 : isD x t a b = true) : sumTo l t a b (k + 1) = sumTo l t a b k + x.val := by simp [sumTo, h, h2]
theorem sumTo_no {l : List En} {t : ByteArray} {a b : Int} {k : Nat} {x : En} (h : l[k]? = some x) (h2 : isD x t a b = false) : sumTo l t a b (k + 1) = sumTo l t a b k := by simp [sumTo, h, h2]
theorem sumTo_bd {l : List En} {t : ByteArray} {a b : Int} (hok : ∀ x ∈ l, okEn x = true) : ∀ k : Nat, -(1000000 * (k : Int)) ≤ sumTo l t a b k ∧ sumTo l t a b k ≤ 1000000 * (k : Int)
  | 0 => by simp [sumTo]
  | k + 1 => by
    have ih := sumTo_bd (t := t) (a := a) (b := b) hok k
    rw [sumTo]
    split
    · omega
    · rename_i x hx
      have hb := okEn_bd (hok x (List.mem_of_getElem? hx))
      split <;> omega
def sumCode (s t : ByteArray) (a b : Int) : Int := if codeF s = 0 then (if (isName t && inR a 0 100000 && inR b 0 100000) = true then 0 else 2) else codeF s
theorem sumCode_bad {s t : ByteArray} {a b : Int} (h : codeF s ≠ 0) : sumCode s t a b = codeF s := by simp [sumCode, h]
theorem sumCode_no {s t : ByteArray} {a b : Int} (h : codeF s = 0) (h2 : (isName t && inR a 0 100000 && inR b 0 100000) = false) : sumCode s t a b = 2 := by simp only [sumCode, h, h2, if_true, Bool.false_eq_true, if_false]
theorem sumCode_ok {s t : ByteArray} {a b : Int} (h : codeF s = 0) (h2 : (isName t && inR a 0 100000 && inR b 0 100000) = true) : sumCode s t a b = 0 := by simp only [sumCode, h, h2, if_true]
def sumF (s t : ByteArray) (a b : Int) : Int × Int := if sumCode s t a b = 0 then (sumTo (logR s).list t a b (logR s).list.length, 0) else (0, sumCode s t a b)
theorem sumF_ok {s t : ByteArray} {a b : Int} (h : sumCode s t a b = 0) : sumF s t a b = (sumTo (logR s).list t a b (logR s).list.length, 0) := by simp only [sumF, h, if_true]
theorem sumF_bad {s t : ByteArray} {a b : Int} (h : sumCode s t a b ≠ 0) : sumF s t a b = (0, sumCode s t a b) := by simp only [sumF, h, if_false]
set_option maxHeartbeats 4000000 in
set_option maxRecDepth 100000 in
theorem implSumOfWhat_any (s t : ByteArray) (a b : Int) (m : Int) (w : World) (hs : s.size ≤ 1048576) (hts : t.size ≤ 1048576) (ha : I64 a) (hb : I64 b) (hm : w.cell? ⟨1, 0, none⟩ = some (.int .i64 m)) (ht : TabP w) (hv : SynP w) :
    Calls Tryd.prog 16 #[.string s, .string t, .int .i64 a, .int .i64 b] w fun e w' => e = .returned (.tuple #[.int .i64 (sumF s t a b).1, .int .i64 (sumF s t a b).2]) ∧ Below w.heap.size w w' := by
  have HCC := Lib.hid (logCode_any s m w hs hm ht hv)
  have htz : t.size ≤ 9223372036854775807 := by omega
  clear ht hv hm
  by_cases hc : codeF s = 0
  · rcases hN : isName t with _ | _
    · have hC := sumCode_no (s := s) (t := t) (a := a) (b := b) hc (by rw [hN]; simp)
      have HO := Lib.hid (sumF_bad (by rw [hC]; decide))
      have HC := Lib.hid hC
      clear hC
      go_enter Tryd.func16, Tryd.ntmps16
      go_wp2_with fail
      refine HCC.out.mono ?_
      rintro e w1 ⟨A, n, d, rfl, hsl, b1⟩
      obtain ⟨wq, hwq⟩ : ∃ y, w1.alloc (.cells #[.slice A n d, .int .i64 (codeR s).stamp, .int .i64 ((codeR s).at_ : Int)] 79) = y := ⟨_, rfl⟩
      have bq : Below w1.heap.size w1 wq := by rw [← hwq]; exact (Below.refl _ _).alloc (Nat.le_refl _) _
      have yb' : Blk wq w1.heap.size 79 #[.slice A n d, .int .i64 (codeR s).stamp, .int .i64 ((codeR s).at_ : Int)] := by rw [← hwq]; exact Blk.new _ _ _
      have HS := Lib.hid (hsl.on bq).low
      have HB := Lib.hid (bnext b1 bq (Nat.le_refl _))
      have e0 : wq.cell? ⟨w1.heap.size, 0, none⟩ = some (.slice A n d) := yb'.cellAt 0 (by simp)
      clear yb' hsl b1 bq
      rw [hc]
      clear hc
      go_wp2_with (first | (go_at_call 57; refine (implIsName_any _ _ htz).mono ?_; rintro e w2 ⟨rfl, rfl⟩) | (go_at_call 58; refine (within_any _ _ _ _).mono ?_; rintro e w2 ⟨rfl, rfl⟩) | fail "n")
      go_ret2
      rw [HO.out, HC.out]
      exact ⟨rfl, HB.out⟩
    · rcases hA : inR a 0 100000 with _ | _
      · have hC := sumCode_no (s := s) (t := t) (a := a) (b := b) hc (by rw [hA]; simp)
        have HO := Lib.hid (sumF_bad (by rw [hC]; decide))
        have HC := Lib.hid hC
        clear hC
        go_enter Tryd.func16, Tryd.ntmps16
        go_wp2_with fail
        refine HCC.out.mono ?_
        rintro e w1 ⟨A, n, d, rfl, hsl, b1⟩
        obtain ⟨wq, hwq⟩ : ∃ y, w1.alloc (.cells #[.slice A n d, .int .i64 (codeR s).stamp, .int .i64 ((codeR s).at_ : Int)] 79) = y := ⟨_, rfl⟩
        have bq : Below w1.heap.size w1 wq := by rw [← hwq]; exact (Below.refl _ _).alloc (Nat.le_refl _) _
        have yb' : Blk wq w1.heap.size 79 #[.slice A n d, .int .i64 (codeR s).stamp, .int .i64 ((codeR s).at_ : Int)] := by rw [← hwq]; exact Blk.new _ _ _
        have HS := Lib.hid (hsl.on bq).low
        have HB := Lib.hid (bnext b1 bq (Nat.le_refl _))
        have e0 : wq.cell? ⟨w1.heap.size, 0, none⟩ = some (.slice A n d) := yb'.cellAt 0 (by simp)
        clear yb' hsl b1 bq
        rw [hc]
        clear hc
        go_wp2_with (first | (go_at_call 57; refine (implIsName_any _ _ htz).mono ?_; rintro e w2 ⟨rfl, rfl⟩) | (go_at_call 58; refine (within_any _ _ _ _).mono ?_; rintro e w2 ⟨rfl, rfl⟩) | fail "n")
        go_ret2
        rw [HO.out, HC.out]
        exact ⟨rfl, HB.out⟩
      · rcases hBb : inR b 0 100000 with _ | _
        · have hC := sumCode_no (s := s) (t := t) (a := a) (b := b) hc (by rw [hBb]; simp)
          have HO := Lib.hid (sumF_bad (by rw [hC]; decide))
          have HC := Lib.hid hC
          clear hC
          go_enter Tryd.func16, Tryd.ntmps16
          go_wp2_with fail
          refine HCC.out.mono ?_
          rintro e w1 ⟨A, n, d, rfl, hsl, b1⟩
          obtain ⟨wq, hwq⟩ : ∃ y, w1.alloc (.cells #[.slice A n d, .int .i64 (codeR s).stamp, .int .i64 ((codeR s).at_ : Int)] 79) = y := ⟨_, rfl⟩
          have bq : Below w1.heap.size w1 wq := by rw [← hwq]; exact (Below.refl _ _).alloc (Nat.le_refl _) _
          have yb' : Blk wq w1.heap.size 79 #[.slice A n d, .int .i64 (codeR s).stamp, .int .i64 ((codeR s).at_ : Int)] := by rw [← hwq]; exact Blk.new _ _ _
          have HS := Lib.hid (hsl.on bq).low
          have HB := Lib.hid (bnext b1 bq (Nat.le_refl _))
          have e0 : wq.cell? ⟨w1.heap.size, 0, none⟩ = some (.slice A n d) := yb'.cellAt 0 (by simp)
          clear yb' hsl b1 bq
          rw [hc]
          clear hc
          go_wp2_with (first | (go_at_call 57; refine (implIsName_any _ _ htz).mono ?_; rintro e w2 ⟨rfl, rfl⟩) | (go_at_call 58; refine (within_any _ _ _ _).mono ?_; rintro e w2 ⟨rfl, rfl⟩) | fail "n")
          go_ret2
          rw [HO.out, HC.out]
          exact ⟨rfl, HB.out⟩
        · have hC := sumCode_ok (s := s) (t := t) (a := a) (b := b) hc (by rw [hN, hA, hBb]; rfl)
          have HO := Lib.hid (sumF_ok hC)
          have hlen := logR_len hc
          have HOK := Lib.hid (logR_ok s).ok
          have HR := codeR_ok hc
          go_enter Tryd.func16, Tryd.ntmps16
          go_wp2_with fail
          refine HCC.out.mono ?_
          rintro e w1 ⟨A, n, d, rfl, hsl, b1⟩
          obtain ⟨wq, hwq⟩ : ∃ y, w1.alloc (.cells #[.slice A n d, .int .i64 (codeR s).stamp, .int .i64 ((codeR s).at_ : Int)] 79) = y := ⟨_, rfl⟩
          have bq : Below w1.heap.size w1 wq := by rw [← hwq]; exact (Below.refl _ _).alloc (Nat.le_refl _) _
          have yb' : Blk wq w1.heap.size 79 #[.slice A n d, .int .i64 (codeR s).stamp, .int .i64 ((codeR s).at_ : Int)] := by rw [← hwq]; exact Blk.new _ _ _
          have HS := Lib.hid (hsl.on bq).low
          have HB := Lib.hid (bnext b1 bq (Nat.le_refl _))
          have e0 : wq.cell? ⟨w1.heap.size, 0, none⟩ = some (.slice A n d) := yb'.cellAt 0 (by simp)
          clear yb' hsl b1 bq
          have hln : (logR s).list.length = n := by have := HS.out.len; rw [HR, ens_length] at this; omega
          have R1 := HS.out.reads (Nat.le_refl _)
          rw [HR] at R1
          rw [hln] at HO hlen
          obtain ⟨l, hl⟩ : ∃ y, (logR s).list = y := ⟨_, rfl⟩
          rw [hl] at R1 HO HOK
          rw [hc]
          clear HS hc hl hln HR hC
          go_wp2_with (first | (go_at_call 57; refine (implIsName_any _ _ htz).mono ?_; rintro e w2 ⟨rfl, rfl⟩) | (go_at_call 58; refine (within_any _ _ _ _).mono ?_; rintro e w2 ⟨rfl, rfl⟩) | fail "n")
          clear e0 hwq
          go_loopw [12, 43] (fun sm i wr => ∃ k : Nat, k ≤ n ∧ i = .int .i64 k ∧ sm = .int .i64 (sumTo l t a b k) ∧ Below wq.heap.size wq wr) (fun _ i _ => n - (RowKit.intOf i).toNat)
          case atStart => exact ⟨0, Nat.zero_le _, rfl, rfl, Below.refl _ _⟩
          case round =>
            obtain ⟨k, hk, rfl, rfl, hbel⟩ := hrel
            have hbd := sumTo_bd (t := t) (a := a) (b := b) HOK.out k
            have HB2 := Lib.hid hbel
            by_cases hlt : k < n
            · obtain ⟨x, lb, off, he, rfl, hlb, c0, c1, c2⟩ := en_at (R1.on (Nat.le_refl _) hbel) hlt
              have hxb := okEn_bd (HOK.out x (List.mem_of_getElem? he))
              have HY := Lib.hid (fun h2 => sumTo_yes (t := t) (a := a) (b := b) he h2)
              have HN := Lib.hid (fun h2 => sumTo_no (t := t) (a := a) (b := b) he h2)
              have hi0 : (0 : Int) ≤ k := by omega
              have hi1 : (k : Int) < n := by omega
              obtain ⟨v, hv⟩ : ∃ v, sumTo l t a b k = v := ⟨_, rfl⟩
              rw [hv] at hbd HY HN ⊢
              have HF := Lib.hid (HB2.out.alloc HB2.out.size (.cells #[.int .i64 x.day, .string x.what, .int .i64 x.val] 41))
              clear he hv hbel
              obtain ⟨hbd0, hbd1⟩ := hbd
              obtain ⟨_, _, _, hx3, hx4⟩ := hxb
              have hww : IntKind.i64.wrap (v + x.val) = v + x.val := by
                unfold IntKind.wrap; simp [IntKind.bits, IntKind.signed]; omega
              rcases hw : isW x t with _ | _
              · have HX := Lib.hid (show isD x t a b = false by simp [isD, hw])
                have hw2 : (x.what.toList == t.toList) = false := hw
                clear hw
                go_wp2
                go_roundw
                case rel => exact ⟨k + 1, by omega, by go_num, by rw [HN.out HX.out], HF.out⟩
                case measure => simp [RowKit.intOf]; omega
              · have hw2 : (x.what.toList == t.toList) = true := hw
                rcases hr : inR x.day a b with _ | _
                · have HX := Lib.hid (show isD x t a b = false by simp [isD, hr])
                  clear hw
                  go_wp2_with (first | (go_at_call 57; refine (implIsName_any _ _ htz).mono ?_; rintro e w2 ⟨rfl, rfl⟩) | (go_at_call 58; refine (within_any _ _ _ _).mono ?_; rintro e w2 ⟨rfl, rfl⟩) | fail "n")
                  go_roundw
                  case rel => exact ⟨k + 1, by omega, by go_num, by rw [HN.out HX.out], HF.out⟩
                  case measure => simp [RowKit.intOf]; omega
                · have HX := Lib.hid (show isD x t a b = true by simp [isD, hw, hr])
                  clear hw
                  go_wp2_with (first | (go_at_call 57; refine (implIsName_any _ _ htz).mono ?_; rintro e w2 ⟨rfl, rfl⟩) | (go_at_call 58; refine (within_any _ _ _ _).mono ?_; rintro e w2 ⟨rfl, rfl⟩) | fail "n")
                  go_roundw
                  case rel => exact ⟨k + 1, by omega, by go_num, by rw [HY.out HX.out], HF.out⟩
                  case measure => simp [RowKit.intOf]; omega
            · obtain rfl : k = n := by omega
              have HF := Lib.hid (bnext HB.out hbel (Nat.le_refl _))
              have hkk : ¬ ((k : Int) < (k : Int)) := by omega
              clear hbel
              go_wp2
              go_ret2
              rw [HO.out]
              exact ⟨rfl, HF.out⟩
  · have hC := sumCode_bad (t := t) (a := a) (b := b) hc
    have HO := Lib.hid (sumF_bad (t := t) (a := a) (b := b) (by rw [hC]; exact hc))
    have HC := Lib.hid hC
    clear hC
    go_enter Tryd.func16, Tryd.ntmps16
    go_wp2_with fail
    refine HCC.out.mono ?_
    rintro e w1 ⟨A, n, d, rfl, hsl, b1⟩
    obtain ⟨wq, hwq⟩ : ∃ y, w1.alloc (.cells #[.slice A n d, .int .i64 (codeR s).stamp, .int .i64 ((codeR s).at_ : Int)] 79) = y := ⟨_, rfl⟩
    have bq : Below w1.heap.size w1 wq := by rw [← hwq]; exact (Below.refl _ _).alloc (Nat.le_refl _) _
    have yb' : Blk wq w1.heap.size 79 #[.slice A n d, .int .i64 (codeR s).stamp, .int .i64 ((codeR s).at_ : Int)] := by rw [← hwq]; exact Blk.new _ _ _
    have HS := Lib.hid (hsl.on bq).low
    have HB := Lib.hid (bnext b1 bq (Nat.le_refl _))
    have e0 : wq.cell? ⟨w1.heap.size, 0, none⟩ = some (.slice A n d) := yb'.cellAt 0 (by simp)
    clear yb' hsl b1 bq
    obtain ⟨v, hv⟩ : ∃ v, codeF s = v := ⟨_, rfl⟩
    rw [hv] at hc HC ⊢
    have hq : (v != 0) = true := by simpa using hc
    have hq2 : (v == 0) = false := by simpa using hc
    clear hc hv
    go_wp2
    go_ret2
    rw [HO.out, HC.out]
    exact ⟨rfl, HB.out⟩
end Go.Proofs.YtjmlcobbjpmjpaaDoor
