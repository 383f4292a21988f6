/- The reading of a log: whole, both sides; its code. -/
import Derived.Test.YtgcepomehgedfaaGreatDoorLine
import Derived.Test.YtgcepomehgedfaaGreatDoorRdLog
set_option linter.unusedVariables false
set_option linter.unusedSimpArgs false
namespace Go.Proofs.YtgcepomehgedfaaGreatDoor
open Go.RowKit Go.Lib

theorem LRec.atOf {lo g : Nat} {s : ByteArray} {w : World} {r : LogR} (h : LRec lo g s w r) : atOf w ⟨g, 1, none⟩ = r.at_ := by
  obtain ⟨A, n, d, h1, h2, h3, h4⟩ := h
  have q : w.cell? ⟨g, 1, none⟩ = some (.int .i64 (r.at_ : Int)) := h1.cellAt 1 (by simp)
  exact (atOf_eq q).trans (Int.toNat_natCast _)
theorem LRec.drew {lo g : Nat} {s : ByteArray} {w : World} {r : LogR} (h : LRec lo g s w r) : LRec lo g s w.drew r := h

set_option maxHeartbeats 4000000 in
set_option maxRecDepth 100000 in
theorem l27Read_any (s : ByteArray) (w : World) (hs : s.size ≤ 1048576) :
    Calls Tryz.prog 36 #[.string s] w fun e w' => e = .returned (.pointer (some ⟨w.heap.size + 1, 0, none⟩)) ∧ LRec w.heap.size (w.heap.size + 1) s w' (logR s) ∧ Below w.heap.size w w' := by
  have hr0 : LRec w.heap.size (w.heap.size + 1) s ((w.alloc (.cells #[] 111)).alloc (.cells #[.string s, .int .i64 0, .int .i64 0, .slice (some ⟨w.heap.size, 0, none⟩) 0 0] 74)) ⟨[], 0, 0⟩ := by
    refine ⟨some ⟨w.heap.size, 0, none⟩, 0, 0, ?_, ?_, ?_, Nat.le_succ _⟩
    · have := Blk.new (w.alloc (.cells #[] 111)) 74 #[.string s, .int .i64 0, .int .i64 0, .slice (some ⟨w.heap.size, 0, none⟩) 0 0]
      simpa using this
    · exact (((Sl.made w 111 3).on ((Below.refl _ _).alloc (Nat.le_refl _) _)).low).wide (Nat.le_refl _) (Nat.le_refl _)
    · intro ad had
      injection had with had
      subst had
      simp
  have hb0 : Below w.heap.size w ((w.alloc (.cells #[] 111)).alloc (.cells #[.string s, .int .i64 0, .int .i64 0, .slice (some ⟨w.heap.size, 0, none⟩) 0 0] 74)) := ((Below.refl _ _).alloc (Nat.le_refl _) _).alloc (by simp) _
  have HR := Lib.hid hr0
  have HB := Lib.hid hb0
  clear hr0 hb0
  go_enter Tryz.func36, Tryz.ntmps36
  go_wp2
  go_loopw [] (fun wr => ∃ r : LogR, r.ok ∧ r.at_ ≤ s.size ∧ logR s = logGo (splitS 10 (s.extract r.at_ s.size)) r ∧ LRec w.heap.size (w.heap.size + 1) s wr r ∧ Below w.heap.size w wr) (fun wr => s.size - atOf wr ⟨w.heap.size + 1, 1, none⟩)
  case atStart => exact ⟨⟨[], 0, 0⟩, LogR.ok_start, Nat.zero_le _, by rw [whole_]; rfl, HR.out, HB.out⟩
  case round =>
    obtain ⟨r, hok, hat, hgo, hrec, hbel⟩ := hrel
    have HA1 := Lib.hid hrec.atOf
    have HGO := Lib.hid hgo
    have HB2 := Lib.hid hbel
    have HK := Lib.hid (fun r' (h : stepS s r = some r') => stepS_some hok hat h)
    clear hgo hbel
    go_wp2_with fail
    refine (l27line_any _ _ s r _ hrec hok hat hs HB2.out.size).mono ?_
    rintro e w1 (⟨r', h1, rfl, h3, b1⟩ | ⟨h1, rfl, h3, b1⟩)
    · have H1 := Lib.hid h1
      have H3 := Lib.hid h3
      have HF := Lib.hid (HB2.out.trans b1)
      clear h1 h3 b1 hrec hok hat
      go_wp2
      go_roundw
      case rel =>
        obtain ⟨k1, k2, k3⟩ := HK.out r' H1.out
        exact ⟨r', k1, k2, by rw [HGO.out, stepS_go (by omega), H1.out], H3.out, HF.out⟩
      case measure =>
        obtain ⟨k1, k2, k3⟩ := HK.out r' H1.out
        rw [HA1.out, H3.out.atOf]
        omega
    · have HO := Lib.hid (show logR s = r by rw [HGO.out, stepS_go hat, h1])
      have H3 := Lib.hid h3
      have HF := Lib.hid (HB2.out.trans b1)
      clear h1 h3 b1 hrec hok hat
      go_wp2
      go_ret
      exact ⟨rfl, by rw [HO.out]; exact H3.out, HF.out⟩

def codeF (s : ByteArray) : Int := if 4000 < s.size then 5 else if (logR s).at_ = s.size then 0 else 8
theorem codeF_full {s : ByteArray} (h : 4000 < s.size) : codeF s = 5 := by simp [codeF, h]
theorem codeF_ok {s : ByteArray} (h : ¬ 4000 < s.size) (h2 : (logR s).at_ = s.size) : codeF s = 0 := by simp only [codeF, h, h2, if_true, if_false]
theorem codeF_bad {s : ByteArray} (h : ¬ 4000 < s.size) (h2 : (logR s).at_ ≠ s.size) : codeF s = 8 := by simp only [codeF, h, h2, if_false]
theorem codeF_bd (s : ByteArray) : 0 ≤ codeF s ∧ codeF s ≤ 8 := by
  unfold codeF
  split
  · omega
  · split <;> omega

set_option maxHeartbeats 4000000 in
set_option maxRecDepth 100000 in
theorem l27Code_any (s : ByteArray) (w : World) (hs : s.size ≤ 1048576) :
    Calls Tryz.prog 24 #[.string s] w fun e w' => ∃ g, e = .returned (.tuple #[.pointer (some ⟨g, 0, none⟩), .int .i64 (codeF s)]) ∧ (codeF s = 0 → LRec w.heap.size g s w' (logR s)) ∧ Below w.heap.size w w' := by
  by_cases h4 : 4000 < s.size
  · have h4i : (4000 : Int) < (s.size : Int) := by omega
    have HO := Lib.hid (codeF_full h4)
    go_enter Tryz.func24, Tryz.ntmps24
    go_wp2
    go_ret2
    rw [HO.out]
    exact ⟨_, rfl, (fun h => by cases h), (Below.refl _ _).alloc (Nat.le_refl _) _⟩
  · have h4i : ¬ ((4000 : Int) < (s.size : Int)) := by omega
    have HAT := logR_at s
    have HO1 := Lib.hid (fun h2 => codeF_ok h4 h2)
    have HO2 := Lib.hid (fun h2 => codeF_bad h4 h2)
    go_enter Tryz.func24, Tryz.ntmps24
    go_wp2_with fail
    refine (l27Read_any s _ hs).mono ?_
    rintro e w1 ⟨rfl, hr, b1⟩
    obtain ⟨A, n, d, y1, hsl, hne, hlg⟩ := hr
    have q1 : w1.cell? ⟨w.heap.size + 1, 1, none⟩ = some (.int .i64 ((logR s).at_ : Int)) := y1.cellAt 1 (by simp)
    have HR := Lib.hid (show LRec w.heap.size (w.heap.size + 1) s w1 (logR s) from ⟨A, n, d, y1, hsl, hne, hlg⟩)
    have HB := Lib.hid b1
    clear y1 hsl hne hlg b1
    obtain ⟨v, hv⟩ : ∃ v, (logR s).at_ = v := ⟨_, rfl⟩
    rw [hv] at q1 HAT
    by_cases h8 : v = s.size
    · have hq : ((v : Int) != (s.size : Int)) = false := by rw [h8]; exact bne_self_eq_false _
      have hq2 : ((v : Int) == (s.size : Int)) = true := by rw [h8]; exact beq_self_eq_true _
      have HO := Lib.hid (HO1.out (hv.trans h8))
      clear h8 hv
      go_wp2
      go_ret2
      rw [HO.out]
      exact ⟨_, rfl, (fun _ => HR.out), HB.out⟩
    · have hq : ((v : Int) != (s.size : Int)) = true := by rw [bne_iff_ne]; omega
      have hq2 : ((v : Int) == (s.size : Int)) = false := by rw [beq_eq_false_iff_ne]; omega
      have HO := Lib.hid (HO2.out (by rw [hv]; exact h8))
      clear h8 hv
      go_wp2
      go_ret2
      rw [HO.out]
      exact ⟨_, rfl, (fun h => by cases h), HB.out⟩

def codeR (s : ByteArray) : LogR := if codeF s = 0 then logR s else ⟨[], 0, 0⟩
theorem codeR_ok {s : ByteArray} (h : codeF s = 0) : codeR s = logR s := by simp only [codeR, h, if_true]
theorem codeR_bad {s : ByteArray} (h : codeF s ≠ 0) : codeR s = ⟨[], 0, 0⟩ := by simp only [codeR, h, if_false]
theorem codeR_isOk (s : ByteArray) : (codeR s).ok := by
  unfold codeR
  split
  · exact logR_ok s
  · exact LogR.ok_start

set_option maxHeartbeats 4000000 in
set_option maxRecDepth 100000 in
theorem logCode_any (s : ByteArray) (m : Int) (w : World) (hs : s.size ≤ 1048576) (hm : w.cell? ⟨3, 0, none⟩ = some (.int .i64 m)) (ht : TabP w) (hv : SynP w) :
    Calls Tryz.prog 51 #[.string s] w fun e w' => ∃ (A : Option Addr) (n d : Nat), e = .returned (.tuple #[.agg #[.slice A n d, .int .i64 (codeR s).stamp, .int .i64 ((codeR s).at_ : Int)], .int .i64 (codeF s)]) ∧ Sl w' w.heap.size w'.heap.size 111 3 A n d (ens (codeR s).list) ∧ Below w.heap.size w w' := by
  have hw0 : (w.alloc (.cells #[.slice none 0 0, .int .i64 0, .int .i64 0] 90)).cell? ⟨3, 0, none⟩ = some (.int .i64 m) := cell_on ((Below.refl _ _).alloc (Nat.le_refl _) _) hm
  have hb0 : Below w.heap.size w (w.alloc (.cells #[.slice none 0 0, .int .i64 0, .int .i64 0] 90)) := (Below.refl _ _).alloc (Nat.le_refl _) _
  have y0 := Blk.new w 90 #[.slice none 0 0, .int .i64 0, .int .i64 0]
  by_cases h4 : 4000 < s.size
  · have h4i : (4000 : Int) < (s.size : Int) := by omega
    have HO := Lib.hid (codeF_full h4)
    have HR := Lib.hid (codeR_bad (s := s) (by rw [HO.out]; decide))
    have hc0 := y0.cellAt 0 (by simp)
    have hc1 := y0.cellAt 1 (by simp)
    have hc2 := y0.cellAt 2 (by simp)
    have hf0 := y0.frozen 0
    have hf1 := y0.frozen 1
    have hf2 := y0.frozen 2
    clear y0 ht hv hm
    go_enter Tryz.func51, Tryz.ntmps51
    go_wp2
    exact bodyPost_ret (v := .tuple #[.agg #[.slice none 0 0, .int .i64 0, .int .i64 0], .int .i64 5]) (by simp [results, Tryz.results51, go_sem, hc0, hc1, hc2]) rfl ⟨none, 0, 0, by rw [HO.out, HR.out]; rfl, by rw [HR.out]; exact Sl.nil _ _ _ _ _, hb0⟩
  · have h4i : ¬ ((4000 : Int) < (s.size : Int)) := by omega
    have HAT := logR_at s
    have HO1 := Lib.hid (fun h2 => codeF_ok h4 h2)
    have HO2 := Lib.hid (fun h2 => codeF_bad h4 h2)
    have HT := Lib.hid (tabUp ht hb0)
    have HV := Lib.hid (synUp hv hb0)
    clear ht hv hm
    go_enter Tryz.func51, Tryz.ntmps51
    go_wp2_with fail
    refine (readLog_any s m _ hs hw0 HT.out HV.out).mono ?_
    rintro e w1 ⟨A, n, d, rfl, hsl, b1⟩
    have y1 := y0.on b1
    have HB1 := Lib.hid (bnext hb0 b1 (Nat.le_refl _))
    have hz1 := b1.size
    clear b1 y0 hw0 hb0
    obtain ⟨v, hv⟩ : ∃ v, (logR s).at_ = v := ⟨_, rfl⟩
    obtain ⟨p, hp⟩ : ∃ p, (logR s).stamp = p := ⟨_, rfl⟩
    rw [hv] at HAT
    rw [hv, hp]
    have HP := Lib.hid hp
    have HW := Lib.hid hv
    clear hp hv
    have yb' : Blk (w1.alloc (.cells #[.slice A n d, .int .i64 p, .int .i64 (v : Int)] 90)) w1.heap.size 90 #[.slice A n d, .int .i64 p, .int .i64 (v : Int)] := Blk.new _ _ _
    have yr' := y1.alloc (.cells #[.slice A n d, .int .i64 p, .int .i64 (v : Int)] 90)
    have hsl' := Lib.hid (hsl.on ((Below.refl w1.heap.size w1).alloc (Nat.le_refl _) (.cells #[.slice A n d, .int .i64 p, .int .i64 (v : Int)] 90)))
    have HB2 := Lib.hid (HB1.out.alloc HB1.out.size (.cells #[.slice A n d, .int .i64 p, .int .i64 (v : Int)] 90))
    have e0 := yb'.cellAt 0 (by simp)
    have e1 := yb'.cellAt 1 (by simp)
    have e2 := yb'.cellAt 2 (by simp)
    have hc0 := yr'.cellAt 0 (by simp)
    have hc1 := yr'.cellAt 1 (by simp)
    have hc2 := yr'.cellAt 2 (by simp)
    have hf0 := yr'.frozen 0
    have hf1 := yr'.frozen 1
    have hf2 := yr'.frozen 2
    clear y1 hsl yb' yr'
    by_cases h8 : v = s.size
    · have hlt : ¬ ((v : Int) < (s.size : Int)) := by omega
      have HO := Lib.hid (HO1.out (HW.out.trans h8))
      have HR := Lib.hid (codeR_ok HO.out)
      clear h8
      go_wp2
      exact bodyPost_ret (v := .tuple #[.agg #[.slice A n d, .int .i64 p, .int .i64 (v : Int)], .int .i64 0]) (by simp [results, Tryz.results51, go_sem, hc0, hc1, hc2]) rfl ⟨A, n, d, by rw [HO.out, HR.out, HW.out, HP.out], by rw [HR.out]; exact ((((hsl'.out.wide (lo' := w.heap.size + 1) (hi' := (w1.alloc (.cells #[.slice A n d, .int .i64 p, .int .i64 (v : Int)] 90)).heap.size) (by simp) (by simp)).setLow (by simp) _).setLow (by simp) _).setLow (by simp) _).low.wide (by omega) (Nat.le_refl _), ((HB2.out.setCell (Nat.le_refl _) _).setCell (Nat.le_refl _) _).setCell (Nat.le_refl _) _⟩
    · have hlt : (v : Int) < (s.size : Int) := by omega
      have HO := Lib.hid (HO2.out (by rw [HW.out]; exact h8))
      have HR := Lib.hid (codeR_bad (s := s) (by rw [HO.out]; decide))
      clear h8
      go_wp2
      exact bodyPost_ret (v := .tuple #[.agg #[.slice none 0 0, .int .i64 0, .int .i64 0], .int .i64 8]) (by simp [results, Tryz.results51, go_sem, hc0, hc1, hc2]) rfl ⟨none, 0, 0, by rw [HO.out, HR.out]; rfl, by rw [HR.out]; exact Sl.nil _ _ _ _ _, ((HB2.out.setCell (Nat.le_refl _) _).setCell (Nat.le_refl _) _).setCell (Nat.le_refl _) _⟩
end Go.Proofs.YtgcepomehgedfaaGreatDoor
