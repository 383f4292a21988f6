/- Events: the quiet hours. -/
import Derived.Test.YtnlghcpidlpfkaaEvE
import Derived.Test.YtnlghcpidlpfkaaI64
import Derived.Test.YtnlghcpidlpfkaaAcc
set_option linter.unusedVariables false
namespace Go.Proofs.Ytnlghcpidlpfkaa
open Go.RowKit

def quietTo (hs : List Int) (most : Int) : Nat → List Int
  | 0 => []
  | k + 1 => if hs.getD k 0 ≤ most then quietTo hs most k ++ [(k : Int)] else quietTo hs most k
theorem quiet_yes {hs : List Int} {most x : Int} {k : Nat} (hx : hs[k]? = some x) (h : x ≤ most) : quietTo hs most (k + 1) = quietTo hs most k ++ [(k : Int)] := by
  simp [quietTo, List.getD, hx, h]
theorem quiet_no {hs : List Int} {most x : Int} {k : Nat} (hx : hs[k]? = some x) (h : ¬ x ≤ most) : quietTo hs most (k + 1) = quietTo hs most k := by
  simp [quietTo, List.getD, hx, h]
theorem quiet_len (hs : List Int) (most : Int) : ∀ k, (quietTo hs most k).length ≤ k
  | 0 => by simp [quietTo]
  | k + 1 => by
    have := quiet_len hs most k
    rw [quietTo]
    split
    · simp; omega
    · omega
def quiet (l : List Ev) (most : Int) : List Int × Int := if okEv l then (if inR most 0 200 then (quietTo (hoursOf l) most 24, 0) else ([], 2)) else ([], 1)
theorem quiet_ok {l : List Ev} {most : Int} (h : okEv l = true) (h2 : inR most 0 200 = true) : quiet l most = (quietTo (hoursOf l) most 24, 0) := by simp [quiet, h, h2]
theorem quiet_range {l : List Ev} {most : Int} (h : okEv l = true) (h2 : inR most 0 200 = false) : quiet l most = ([], 2) := by simp [quiet, h, h2]
theorem quiet_bad {l : List Ev} {most : Int} (h : okEv l = false) : quiet l most = ([], 1) := by simp [quiet, h]
theorem cntQuietHours_len {l : List Ev} {most : Int} {m : Nat} (h : (ints (quiet l most).1).length = m * 1) : m ≤ 1048576 := by
  rw [ints_length] at h
  have h1 := quiet_len (hoursOf l) most 24
  unfold quiet at h
  split at h
  · split at h
    · simp only at h; omega
    · simp at h; omega
  · simp at h; omega
theorem ints_snoc (xs : List Int) (x : Int) : ints xs ++ [.int .i64 x] = ints (xs ++ [x]) := by simp [ints]
theorem info_i64 : (Try.prog.info? 2).map (fun i => (i.zero, i.size, i.bytes)) = some (some (.int .i64 0), 1, 8) := by kernel_rfl

theorem specQuietHours_any (A : Option Addr) (n c : Nat) (l : List Ev) (most : Int) (B : Nat) (w : World) (h : Reads w B 2 A n (evs l)) (hB : B ≤ w.heap.size) (hn : n ≤ 1048576) (hx : I64 most) :
    Calls Try.prog 60 #[.slice A n c, .int .i64 most] w fun e w' => ∃ A' m d, e = .returned (.tuple #[.slice A' m d, .int .i64 (quiet l most).2]) ∧ Sl w' w.heap.size w'.heap.size 2 1 A' m d (ints (quiet l most).1) ∧ Below w.heap.size w w' := by
  by_cases hok : okEv l = true
  · by_cases hr : inR most 0 200 = true
    · have HO := Lib.hid hok
      have HR := Lib.hid hr
      go_enter Try.func60, Try.ntmps60
      go_wp2_with fail
      refine (l26Ok_any _ _ _ _ _ _ h hn).mono ?_
      rintro e w' ⟨rfl, rfl⟩
      go_wp2_with fail
      refine (l00In_any _ _ _ _).mono ?_
      rintro e w' ⟨rfl, rfl⟩
      go_wp2_with fail
      refine (l26Hours_any _ _ _ _ l _ h hB HO.out).mono ?_
      rintro e w1 ⟨g, rfl, s1, b1⟩
      go_wp2
      have hz1 := b1.size
      have R1 := s1.reads (Nat.le_refl _)
      have HB1 := Lib.hid b1
      have acc0 := Acc.made w1 2 1
      clear s1 b1 h hok hr
      go_loopw [7, 8] (fun o i wr => ∃ (k : Nat) (A' : Option Addr) (m d : Nat), k ≤ 24 ∧ i = .int .i64 k ∧ o = .slice A' m d ∧ Acc w1.heap.size w1.heap.size 2 1 w1 wr A' m d (ints (quietTo (hoursOf l) most k))) (fun _ i _ => 24 - (intOf i).toNat)
      case atStart => exact ⟨0, _, _, _, Nat.zero_le _, rfl, rfl, acc0⟩
      case round =>
        obtain ⟨k, A', m, d, hk, rfl, rfl, hacc⟩ := hrel
        have HA := Lib.hid hacc
        have hml : m ≤ 24 := by have h1 := HA.out.len; rw [ints_length] at h1; have h2 := quiet_len (hoursOf l) most k; omega
        clear acc0 hacc
        by_cases hlt : k < 24
        · obtain ⟨x, b, off, he, e2, hb, c0⟩ := int_at (HA.out.reads R1 (Nat.le_refl _) (Nat.le_refl _)) hlt
          injection e2 with e2; injection e2 with e2 e2'; subst e2; subst e2'
          rw [Nat.zero_add] at c0
          have HE := Lib.hid he
          clear he
          by_cases hxm : x ≤ most
          · have HQ := Lib.hid (quiet_yes HE.out hxm)
            go_wp2_with (at_builtin; refine wpList_acc rfl _ _ 53 rfl 2 _ 1 8 Try.underlying53 info_i64 rfl (by decide) (by decide) HA.out (Nat.le_refl _) rfl [.int .i64 k] rfl rfl (fun u hu => by simp at hu; subst hu; rfl) (by omega) ?_; intro A2 d2 w2 hacc2; have HA2 := Lib.hid hacc2; clear hacc2)
            go_roundw
            case rel => exact ⟨k + 1, _, _, _, by omega, by go_num, rfl, by rw [HQ.out, ← ints_snoc]; exact HA2.out⟩
            case measure => simp [intOf]; omega
          · have HQ := Lib.hid (quiet_no HE.out hxm)
            go_wp2
            go_roundw
            case rel => exact ⟨k + 1, _, _, _, by omega, by go_num, rfl, by rw [HQ.out]; exact HA.out⟩
            case measure => simp [intOf]; omega
        · obtain rfl : k = 24 := by omega
          go_wp2
          go_ret2
          rw [quiet_ok HO.out HR.out]
          exact ⟨_, _, _, rfl, HA.out.sl hz1 hz1, HB1.out.trans (HA.out.below hz1 hz1)⟩
    · have hr : inR most 0 200 = false := by simpa using hr
      have HO := Lib.hid hok
      have HR := Lib.hid hr
      go_enter Try.func60, Try.ntmps60
      go_wp2_with fail
      refine (l26Ok_any _ _ _ _ _ _ h hn).mono ?_
      rintro e w' ⟨rfl, rfl⟩
      go_wp2_with fail
      refine (l00In_any _ _ _ _).mono ?_
      rintro e w' ⟨rfl, rfl⟩
      go_wp2
      go_ret2
      rw [quiet_range HO.out HR.out]
      exact ⟨_, _, _, rfl, Sl.nil _ _ _ _ _, Below.refl _ _⟩
  · have hok : okEv l = false := by simpa using hok
    have HO := Lib.hid hok
    go_enter Try.func60, Try.ntmps60
    go_wp2_with fail
    refine (l26Ok_any _ _ _ _ _ _ h hn).mono ?_
    rintro e w' ⟨rfl, rfl⟩
    go_wp2
    go_ret2
    rw [quiet_bad HO.out]
    exact ⟨_, _, _, rfl, Sl.nil _ _ _ _ _, Below.refl _ _⟩

theorem implQuietHours_any (A : Option Addr) (n c : Nat) (l : List Ev) (most : Int) (B : Nat) (w : World) (h : Reads w B 2 A n (evs l)) (hB : B ≤ w.heap.size) (hn : n ≤ 1048576) (hx : I64 most) :
    Calls Try.prog 59 #[.slice A n c, .int .i64 most] w fun e w' => ∃ A' m d, e = .returned (.tuple #[.slice A' m d, .int .i64 (quiet l most).2]) ∧ Sl w' w.heap.size w'.heap.size 2 1 A' m d (ints (quiet l most).1) ∧ Below w.heap.size w w' := by
  by_cases hok : okEv l = true
  · by_cases hr : inR most 0 200 = true
    · have HO := Lib.hid hok
      have HR := Lib.hid hr
      go_enter Try.func59, Try.ntmps59
      go_wp2_with fail
      refine (implValidEvents_any _ _ _ _ _ _ h hB hn).mono ?_
      rintro e w0 ⟨rfl, b0⟩
      go_wp2_with fail
      refine (within_any _ _ _ _).mono ?_
      rintro e w' ⟨rfl, rfl⟩
      go_wp2_with fail
      have hz0 := b0.size
      have made := (Sl.made w0 2 1)
      refine (byHour_any _ _ _ _ l _ ((h.on hB b0).on (Nat.le_trans hB hz0) ((Below.refl _ _).alloc (Nat.le_refl _) _)) (by simp; omega) HO.out).mono ?_
      rintro e w1 ⟨g, rfl, s1, b1⟩
      go_wp2
      have hz1 : w0.heap.size + 1 ≤ w1.heap.size := by have := b1.size; simpa using this
      obtain ⟨_, e3, hg1, hg2, hg3⟩ := s1.lt (by omega)
      injection e3 with e3; injection e3 with e3; subst e3
      have hg1 : w0.heap.size + 1 ≤ g := by simpa using hg1
      have R1 := s1.reads (Nat.le_refl _)
      have acc0 := Acc.start (made.on b1) (b0 := w0.heap.size) (fun a ha => by injection ha with ha; subst ha; rfl) w1.heap.size
      have HB1 := Lib.hid (bnext b0 ((Below.refl w0.heap.size w0).alloc (Nat.le_refl _) (.cells #[] 2)) (Nat.le_refl _) |>.trans (b1.mono (by simp; omega)))
      clear s1 b1 h hok hr made b0
      go_loopw [6, 21] (fun o i wr => ∃ (k : Nat) (A' : Option Addr) (m d : Nat), k ≤ 24 ∧ i = .int .i64 k ∧ o = .slice A' m d ∧ Acc w0.heap.size w1.heap.size 2 1 w1 wr A' m d (ints (quietTo (hoursOf l) most k))) (fun _ i _ => 24 - (intOf i).toNat)
      case atStart => exact ⟨0, _, _, _, Nat.zero_le _, rfl, rfl, acc0⟩
      case round =>
        obtain ⟨k, A', m, d, hk, rfl, rfl, hacc⟩ := hrel
        have HA := Lib.hid hacc
        have hml : m ≤ 24 := by have h1 := HA.out.len; rw [ints_length] at h1; have h2 := quiet_len (hoursOf l) most k; omega
        clear acc0 hacc
        by_cases hlt : k < 24
        · obtain ⟨x, b, off, he, e2, hb, c0⟩ := int_at (HA.out.readsNe R1 (Nat.le_refl _) (by omega)) hlt
          injection e2 with e2; injection e2 with e2 e2'; subst e2; subst e2'
          rw [Nat.zero_add] at c0
          have HE := Lib.hid he
          clear he
          by_cases hxm : x ≤ most
          · have HQ := Lib.hid (quiet_yes HE.out hxm)
            go_wp2_with (at_builtin; refine wpList_acc rfl _ _ 53 rfl 2 _ 1 8 Try.underlying53 info_i64 rfl (by decide) (by decide) HA.out (Nat.le_refl _) rfl [.int .i64 k] rfl rfl (fun u hu => by simp at hu; subst hu; rfl) (by omega) ?_; intro A2 d2 w2 hacc2; have HA2 := Lib.hid hacc2; clear hacc2)
            go_roundw
            case rel => exact ⟨k + 1, _, _, _, by omega, by go_num, rfl, by rw [HQ.out, ← ints_snoc]; exact HA2.out⟩
            case measure => simp [intOf]; omega
          · have HQ := Lib.hid (quiet_no HE.out hxm)
            go_wp2
            go_roundw
            case rel => exact ⟨k + 1, _, _, _, by omega, by go_num, rfl, by rw [HQ.out]; exact HA.out⟩
            case measure => simp [intOf]; omega
        · obtain rfl : k = 24 := by omega
          go_wp2
          go_ret2
          rw [quiet_ok HO.out HR.out]
          exact ⟨_, _, _, rfl, HA.out.sl (by omega) (by omega), HB1.out.trans (HA.out.below (by omega) (by omega))⟩
    · have hr : inR most 0 200 = false := by simpa using hr
      have HO := Lib.hid hok
      have HR := Lib.hid hr
      go_enter Try.func59, Try.ntmps59
      go_wp2_with fail
      refine (implValidEvents_any _ _ _ _ _ _ h hB hn).mono ?_
      rintro e w0 ⟨rfl, b0⟩
      go_wp2_with fail
      refine (within_any _ _ _ _).mono ?_
      rintro e w' ⟨rfl, rfl⟩
      go_wp2
      go_ret2
      rw [quiet_range HO.out HR.out]
      exact ⟨_, _, _, rfl, Sl.nil _ _ _ _ _, b0⟩
  · have hok : okEv l = false := by simpa using hok
    have HO := Lib.hid hok
    go_enter Try.func59, Try.ntmps59
    go_wp2_with fail
    refine (implValidEvents_any _ _ _ _ _ _ h hB hn).mono ?_
    rintro e w0 ⟨rfl, b0⟩
    go_wp2
    go_ret2
    rw [quiet_bad HO.out]
    exact ⟨_, _, _, rfl, Sl.nil _ _ _ _ _, b0⟩

end Go.Proofs.Ytnlghcpidlpfkaa
