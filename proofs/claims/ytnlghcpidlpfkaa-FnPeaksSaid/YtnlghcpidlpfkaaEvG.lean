/- Events: the share of a station. -/
import Derived.Test.YtnlghcpidlpfkaaEvE
import Derived.Test.YtnlghcpidlpfkaaI64
import Derived.Test.YtnlghcpidlpfkaaFrac
set_option linter.unusedVariables false
namespace Go.Proofs.Ytnlghcpidlpfkaa
open Go.RowKit

def share (l : List Ev) (st : Int) : (Int × Int) × Int :=
  if okEv l then (if inR st 0 9 then (if l.length = 0 then ((0, 0), 3) else (lowF ((stationsOf l).getD st.toNat 0).toNat l.length, 0)) else ((0, 0), 2)) else ((0, 0), 1)
theorem share_bad {l : List Ev} {st : Int} (h : okEv l = false) : share l st = ((0, 0), 1) := by simp [share, h]
theorem share_range {l : List Ev} {st : Int} (h : okEv l = true) (h2 : inR st 0 9 = false) : share l st = ((0, 0), 2) := by simp [share, h, h2]
theorem share_none {l : List Ev} {st : Int} (h : okEv l = true) (h2 : inR st 0 9 = true) (h3 : l.length = 0) : share l st = ((0, 0), 3) := by simp [share, h, h2, h3]
theorem share_ok {l : List Ev} {x y n : Nat} (h : okEv l = true) (h2 : inR (x : Int) 0 9 = true) (h3 : l.length = n) (h0 : n ≠ 0) (hy : (stationsOf l)[x]? = some (y : Int)) : share l x = (lowF y n, 0) := by
  simp [share, h, h2, h3, h0, List.getD, hy]
theorem stations_bd {l : List Ev} (h : okEv l = true) : ∀ x ∈ stationsOf l, 0 ≤ x ∧ x ≤ 200 := fun x hx => by
  have h1 := histOf_bound _ 10 l x hx
  have h2 := okEv_len h
  omega
theorem stations_len (l : List Ev) : (stationsOf l).length = 10 := histOf_length _ _ _

theorem specShareOfStation_any (A : Option Addr) (n c : Nat) (l : List Ev) (st : Int) (B : Nat) (w : World) (h : Reads w B 2 A n (evs l)) (hB : B ≤ w.heap.size) (hn : n ≤ 1048576) (hx : I64 st) :
    Calls Try.prog 63 #[.slice A n c, .int .i64 st] w fun e w' => e = .returned (.tuple #[.agg #[.int .i64 (share l st).1.1, .int .i64 (share l st).1.2], .int .i64 (share l st).2]) ∧ Below w.heap.size w w' := by
  have HL := Lib.hid (evs_len h)
  have h1 : Reads (w.alloc (.cells #[.int .i64 0, .int .i64 0] 97)) B 2 A n (evs l) := h.on hB ((Below.refl _ _).alloc (Nat.le_refl _) _)
  have hB1 : B ≤ (w.alloc (.cells #[.int .i64 0, .int .i64 0] 97)).heap.size := by simp; omega
  by_cases hok : okEv l = true
  · have HO := Lib.hid hok
    by_cases hr : inR st 0 9 = true
    · have HR := Lib.hid hr
      by_cases h0 : n = 0
      · subst h0
        go_enter Try.func63, Try.ntmps63
        go_wp2_with fail
        refine (l26Ok_any _ _ _ _ _ _ h1 hn).mono ?_
        rintro e w' ⟨rfl, rfl⟩
        go_wp2_with fail
        refine (l00In_any _ _ _ _).mono ?_
        rintro e w' ⟨rfl, rfl⟩
        go_wp2
        exact bodyPost_ret (v := .tuple #[.agg #[.int .i64 0, .int .i64 0], .int .i64 3]) (by simp [results, Try.results63, go_sem]) rfl ⟨by rw [share_none HO.out HR.out HL.out], (Below.refl _ _).alloc (Nat.le_refl _) _⟩
      · have hz : ((n : Int) == 0) = false := by rw [beq_eq_false_iff_ne]; omega
        obtain ⟨x, rfl⟩ := Int.eq_ofNat_of_zero_le (inR_true.1 hr).1
        have hx9 : x < 10 := by have := (inR_true.1 hr).2; omega
        have bx := Blk.new w 97 #[.int .i64 0, .int .i64 0]
        go_enter Try.func63, Try.ntmps63
        go_wp2_with fail
        refine (l26Ok_any _ _ _ _ _ _ h1 hn).mono ?_
        rintro e w' ⟨rfl, rfl⟩
        go_wp2_with fail
        refine (l00In_any _ _ _ _).mono ?_
        rintro e w' ⟨rfl, rfl⟩
        go_wp2_with fail
        refine (l26Stations_any _ _ _ _ l _ h1 hB1 HO.out).mono ?_
        rintro e w1 ⟨g, rfl, s1, b1⟩
        obtain ⟨y, b', off', he', e2, hb', c1⟩ := int_at (k := x) (s1.reads (Nat.le_refl _)) hx9
        injection e2 with e2; injection e2 with e2 e2'; subst e2; subst e2'
        rw [Nat.zero_add] at c1
        have hy := stations_bd HO.out y (List.mem_of_getElem? he')
        obtain ⟨y, rfl⟩ := Int.eq_ofNat_of_zero_le hy.1
        have HS := Lib.hid (share_ok HO.out HR.out HL.out h0 he')
        clear he' hok hr
        go_wp2_with fail
        refine (l02Make_any _ _ _ (by omega) (by omega) (by omega)).mono ?_
        rintro e w2 ⟨rfl, b2⟩
        have bx2 := (bx.on b1).on b2
        have hc0 := bx2.cellAt 0 (by decide)
        have hc1 := bx2.cellAt 1 (by decide)
        have hf0 := bx2.frozen 0
        have hf1 := bx2.frozen 1
        have HB := Lib.hid (bnext (bnext ((Below.refl w.heap.size w).alloc (Nat.le_refl _) _) b1 (Nat.le_refl _)) b2 (Nat.le_refl _))
        clear bx2 bx b1 b2 s1 h1 h
        go_wp2
        exact bodyPost_ret (v := .tuple #[.agg #[.int .i64 (lowF y n).1, .int .i64 (lowF y n).2], .int .i64 0]) (by simp [results, Try.results63, go_sem, hc0, hc1]) rfl ⟨by rw [HS.out], (HB.out.setCell (Nat.le_refl _) _).setCell (Nat.le_refl _) _⟩
    · have hr : inR st 0 9 = false := by simpa using hr
      have HR := Lib.hid hr
      go_enter Try.func63, Try.ntmps63
      go_wp2_with fail
      refine (l26Ok_any _ _ _ _ _ _ h1 hn).mono ?_
      rintro e w' ⟨rfl, rfl⟩
      go_wp2_with fail
      refine (l00In_any _ _ _ _).mono ?_
      rintro e w' ⟨rfl, rfl⟩
      go_wp2
      exact bodyPost_ret (v := .tuple #[.agg #[.int .i64 0, .int .i64 0], .int .i64 2]) (by simp [results, Try.results63, go_sem]) rfl ⟨by rw [share_range HO.out HR.out], (Below.refl _ _).alloc (Nat.le_refl _) _⟩
  · have hok : okEv l = false := by simpa using hok
    have HO := Lib.hid hok
    go_enter Try.func63, Try.ntmps63
    go_wp2_with fail
    refine (l26Ok_any _ _ _ _ _ _ h1 hn).mono ?_
    rintro e w' ⟨rfl, rfl⟩
    go_wp2
    exact bodyPost_ret (v := .tuple #[.agg #[.int .i64 0, .int .i64 0], .int .i64 1]) (by simp [results, Try.results63, go_sem]) rfl ⟨by rw [share_bad HO.out], (Below.refl _ _).alloc (Nat.le_refl _) _⟩
theorem implShareOfStation_any (A : Option Addr) (n c : Nat) (l : List Ev) (st : Int) (B : Nat) (w : World) (h : Reads w B 2 A n (evs l)) (hB : B ≤ w.heap.size) (hn : n ≤ 1048576) (hx : I64 st) :
    Calls Try.prog 62 #[.slice A n c, .int .i64 st] w fun e w' => e = .returned (.tuple #[.agg #[.int .i64 (share l st).1.1, .int .i64 (share l st).1.2], .int .i64 (share l st).2]) ∧ Below w.heap.size w w' := by
  have HL := Lib.hid (evs_len h)
  have h1 : Reads (w.alloc (.cells #[.int .i64 0, .int .i64 0] 97)) B 2 A n (evs l) := h.on hB ((Below.refl _ _).alloc (Nat.le_refl _) _)
  have hB1 : B ≤ (w.alloc (.cells #[.int .i64 0, .int .i64 0] 97)).heap.size := by simp; omega
  have bx := Blk.new w 97 #[.int .i64 0, .int .i64 0]
  by_cases hok : okEv l = true
  · have HO := Lib.hid hok
    by_cases hr : inR st 0 9 = true
    · have HR := Lib.hid hr
      by_cases h0 : n = 0
      · subst h0
        go_enter Try.func62, Try.ntmps62
        go_wp2_with fail
        refine (implValidEvents_any _ _ _ _ _ _ h1 hB1 hn).mono ?_
        rintro e w0 ⟨rfl, b0⟩
        have bx0 := bx.on b0
        have hc0 := bx0.cellAt 0 (by decide)
        have hc1 := bx0.cellAt 1 (by decide)
        have hf0 := bx0.frozen 0
        have hf1 := bx0.frozen 1
        have HB0 := Lib.hid (bnext ((Below.refl w.heap.size w).alloc (Nat.le_refl _) _) b0 (Nat.le_refl _))
        have h2 := h1.on hB1 b0
        have hB2 := Nat.le_trans hB1 b0.size
        clear b0 h1 bx
        go_wp2_with fail
        refine (within_any _ _ _ _).mono ?_
        rintro e w' ⟨rfl, rfl⟩
        go_wp2
        exact bodyPost_ret (v := .tuple #[.agg #[.int .i64 0, .int .i64 0], .int .i64 3]) (by simp [results, Try.results62, go_sem, hc0, hc1]) rfl ⟨by rw [share_none HO.out HR.out HL.out], (HB0.out.setCell (Nat.le_refl _) _).setCell (Nat.le_refl _) _⟩
      · have hz : ((n : Int) == 0) = false := by rw [beq_eq_false_iff_ne]; omega
        obtain ⟨x, rfl⟩ := Int.eq_ofNat_of_zero_le (inR_true.1 hr).1
        have hx9 : x < 10 := by have := (inR_true.1 hr).2; omega
        go_enter Try.func62, Try.ntmps62
        go_wp2_with fail
        refine (implValidEvents_any _ _ _ _ _ _ h1 hB1 hn).mono ?_
        rintro e w0 ⟨rfl, b0⟩
        have bx0 := bx.on b0
        have hc0 := bx0.cellAt 0 (by decide)
        have hc1 := bx0.cellAt 1 (by decide)
        have hf0 := bx0.frozen 0
        have hf1 := bx0.frozen 1
        have HB0 := Lib.hid (bnext ((Below.refl w.heap.size w).alloc (Nat.le_refl _) _) b0 (Nat.le_refl _))
        have h2 := h1.on hB1 b0
        have hB2 := Nat.le_trans hB1 b0.size
        clear b0 h1 bx
        go_wp2_with fail
        refine (within_any _ _ _ _).mono ?_
        rintro e w' ⟨rfl, rfl⟩
        go_wp2_with fail
        clear hc0 hc1 hf0 hf1
        refine (byStation_any _ _ _ _ l _ h2 hB2 HO.out).mono ?_
        rintro e w1 ⟨g, rfl, s1, b1⟩
        obtain ⟨y, b', off', he', e2, hb', c1⟩ := int_at (k := x) (s1.reads (Nat.le_refl _)) hx9
        injection e2 with e2; injection e2 with e2 e2'; subst e2; subst e2'
        rw [Nat.zero_add] at c1
        have hy := stations_bd HO.out y (List.mem_of_getElem? he')
        obtain ⟨y, rfl⟩ := Int.eq_ofNat_of_zero_le hy.1
        have HS := Lib.hid (share_ok HO.out HR.out HL.out h0 he')
        clear he' hok hr
        go_wp2_with fail
        refine (lowest_any _ _ _ (by omega) (by omega) (by omega)).mono ?_
        rintro e w2 ⟨rfl, b2⟩
        have bx2 := (bx0.on b1).on b2
        have hc0 := bx2.cellAt 0 (by decide)
        have hc1 := bx2.cellAt 1 (by decide)
        have hf0 := bx2.frozen 0
        have hf1 := bx2.frozen 1
        have HB := Lib.hid (bnext (bnext HB0.out b1 (Nat.le_refl _)) b2 (Nat.le_refl _))
        clear bx2 bx0 b1 b2 s1 h2 h
        go_wp2
        exact bodyPost_ret (v := .tuple #[.agg #[.int .i64 (lowF y n).1, .int .i64 (lowF y n).2], .int .i64 0]) (by simp [results, Try.results62, go_sem, hc0, hc1]) rfl ⟨by rw [HS.out], (HB.out.setCell (Nat.le_refl _) _).setCell (Nat.le_refl _) _⟩
    · have hr : inR st 0 9 = false := by simpa using hr
      have HR := Lib.hid hr
      go_enter Try.func62, Try.ntmps62
      go_wp2_with fail
      refine (implValidEvents_any _ _ _ _ _ _ h1 hB1 hn).mono ?_
      rintro e w0 ⟨rfl, b0⟩
      have bx0 := bx.on b0
      have hc0 := bx0.cellAt 0 (by decide)
      have hc1 := bx0.cellAt 1 (by decide)
      have hf0 := bx0.frozen 0
      have hf1 := bx0.frozen 1
      have HB0 := Lib.hid (bnext ((Below.refl w.heap.size w).alloc (Nat.le_refl _) _) b0 (Nat.le_refl _))
      have h2 := h1.on hB1 b0
      have hB2 := Nat.le_trans hB1 b0.size
      clear b0 h1 bx
      go_wp2_with fail
      refine (within_any _ _ _ _).mono ?_
      rintro e w' ⟨rfl, rfl⟩
      go_wp2
      exact bodyPost_ret (v := .tuple #[.agg #[.int .i64 0, .int .i64 0], .int .i64 2]) (by simp [results, Try.results62, go_sem, hc0, hc1]) rfl ⟨by rw [share_range HO.out HR.out], (HB0.out.setCell (Nat.le_refl _) _).setCell (Nat.le_refl _) _⟩
  · have hok : okEv l = false := by simpa using hok
    have HO := Lib.hid hok
    go_enter Try.func62, Try.ntmps62
    go_wp2_with fail
    refine (implValidEvents_any _ _ _ _ _ _ h1 hB1 hn).mono ?_
    rintro e w0 ⟨rfl, b0⟩
    have bx0 := bx.on b0
    have hc0 := bx0.cellAt 0 (by decide)
    have hc1 := bx0.cellAt 1 (by decide)
    have hf0 := bx0.frozen 0
    have hf1 := bx0.frozen 1
    have HB0 := Lib.hid (bnext ((Below.refl w.heap.size w).alloc (Nat.le_refl _) _) b0 (Nat.le_refl _))
    have h2 := h1.on hB1 b0
    have hB2 := Nat.le_trans hB1 b0.size
    clear b0 h1 bx
    go_wp2
    exact bodyPost_ret (v := .tuple #[.agg #[.int .i64 0, .int .i64 0], .int .i64 1]) (by simp [results, Try.results62, go_sem, hc0, hc1]) rfl ⟨by rw [share_bad HO.out], (HB0.out.setCell (Nat.le_refl _) _).setCell (Nat.le_refl _) _⟩
end Go.Proofs.Ytnlghcpidlpfkaa
