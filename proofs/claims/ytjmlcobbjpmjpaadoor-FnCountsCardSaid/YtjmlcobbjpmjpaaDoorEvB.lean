/- Events: the program's test of a list of events, the copies that the law makes, marks. -/
import Derived.Test.YtjmlcobbjpmjpaaDoorEvA
set_option linter.unusedVariables false
namespace Go.Proofs.YtjmlcobbjpmjpaaDoor
open Go.RowKit

theorem specValidEvents_any (A : Option Addr) (n c : Nat) (l : List Ev) (B : Nat) (w : World) (h : Reads w B 2 A n (evs l)) (_hB : B ≤ w.heap.size) (hn : n ≤ 1048576) :
    Calls Tryd.prog 42 #[.slice A n c] w fun e w' => e = .returned (.bool (okEv l)) ∧ Below w.heap.size w w' := by
  go_enter Tryd.func42, Tryd.ntmps42
  go_wp2_with (go_at_call 70; refine (l26Ok_any _ _ _ _ _ _ h hn).mono ?_; rintro e w' ⟨rfl, rfl⟩)
  go_ret
  exact ⟨rfl, Below.refl _ _⟩

theorem validEv1_any (s hh : Int) (w : World) : Calls Tryd.prog 80 #[.agg #[.int .i64 s, .int .i64 hh]] w fun e w' => e = .returned (.bool (!(inR s 0 9 && inR hh 0 23))) ∧ Below w.heap.size w w' := by
  by_cases h1 : inR s 0 9 = true
  · by_cases h2 : inR hh 0 23 = true
    · go_enter Tryd.func80, Tryd.ntmps80
      go_wp2_with (go_at_call 58; refine (within_any _ _ _ _).mono ?_; rintro e w' ⟨rfl, rfl⟩)
      go_ret
      exact ⟨ret_bool (by simp [h1, h2]), (Below.refl _ _).alloc (Nat.le_refl _) _⟩
    · have h2 : inR hh 0 23 = false := by simpa using h2
      go_enter Tryd.func80, Tryd.ntmps80
      go_wp2_with (go_at_call 58; refine (within_any _ _ _ _).mono ?_; rintro e w' ⟨rfl, rfl⟩)
      go_ret
      exact ⟨ret_bool (by simp [h2]), (Below.refl _ _).alloc (Nat.le_refl _) _⟩
  · have h1 : inR s 0 9 = false := by simpa using h1
    go_enter Tryd.func80, Tryd.ntmps80
    go_wp2_with (go_at_call 58; refine (within_any _ _ _ _).mono ?_; rintro e w' ⟨rfl, rfl⟩)
    go_ret
    exact ⟨ret_bool (by simp [h1]), (Below.refl _ _).alloc (Nat.le_refl _) _⟩

theorem indexFuncEv_any (A : Option Addr) (n c B : Nat) (l : List Ev) (w : World) (h : Reads w B 2 A n (evs l)) (hB : B ≤ w.heap.size) (hn : n ≤ 1048576) :
    Calls Tryd.prog 111 #[.slice A n c, .func (.func 80) #[] #[]] w
      fun e w' => e = .returned (.int .i64 (idxI (fun x => !okE x) l)) ∧ Below w.heap.size w w' := by
  have hl := Lib.hid (evs_len h)
  go_enter Tryd.func111, Tryd.ntmps111
  go_wp2
  go_loopw [8] (fun i wr => ∃ k : Nat, k ≤ n ∧ i = .int .i64 k ∧ AllTo okE l k ∧ Below w.heap.size w wr) (fun i _ => n - (intOf i).toNat)
  case atStart => exact ⟨0, Nat.zero_le _, rfl, AllTo.zero _ _, Below.refl _ _⟩
  case round =>
    obtain ⟨k, hk, rfl, hall, hbel⟩ := hrel
    have HA := Lib.hid hall
    clear hall
    by_cases hlt : k < n
    · obtain ⟨⟨s, hh⟩, b, off, he, rfl, hb, c0, c1⟩ := ev_at (h.on hB hbel) hlt
      have HE := Lib.hid he
      clear he
      simp only at c0 c1
      by_cases h1 : inR s 0 9 && inR hh 0 23
      · have HO := Lib.hid (show okE ⟨s, hh⟩ = true from h1)
        go_wp2_with (go_at_call 80; refine (validEv1_any _ _ _).mono ?_; rintro e w1 ⟨rfl, hb1⟩)
        go_roundw
        case rel => exact ⟨k + 1, by omega, by go_num, HA.out.step HE.out HO.out, bnext hbel hb1 (Nat.le_refl _)⟩
        case measure => simp [intOf]; omega
      · have h1 : (inR s 0 9 && inR hh 0 23) = false := by simpa using h1
        have HO := Lib.hid (show idxI (fun x => !okE x) l = k from idxI_found HE.out (by simp [okE, h1]) (HA.out.imp fun x hx => by simp [hx]))
        go_wp2_with (go_at_call 80; refine (validEv1_any _ _ _).mono ?_; rintro e w1 ⟨rfl, hb1⟩)
        go_ret
        exact ⟨ret_int HO.out.symm, bnext hbel hb1 (Nat.le_refl _)⟩
    · obtain rfl : k = n := by omega
      have HO := Lib.hid (show idxI (fun x => !okE x) l = -1 from idxI_none (HA.out.imp fun x hx => by simp [hx]) hl.out)
      go_wp2
      go_ret
      exact ⟨ret_int HO.out.symm, hbel⟩

theorem containsFuncEv_any (A : Option Addr) (n c B : Nat) (l : List Ev) (w : World) (h : Reads w B 2 A n (evs l)) (hB : B ≤ w.heap.size) (hn : n ≤ 1048576) :
    Calls Tryd.prog 79 #[.slice A n c, .func (.func 80) #[] #[]] w
      fun e w' => e = .returned (.bool (!l.all okE)) ∧ Below w.heap.size w w' := by
  have HO := Lib.hid (show decide (0 ≤ idxI (fun x => !okE x) l) = !l.all okE from by rw [idxI_nonneg]; simp [List.any_eq_not_all_not])
  go_enter Tryd.func79, Tryd.ntmps79
  go_wp2_with (go_at_call 111; refine (indexFuncEv_any _ _ _ _ _ _ h hB hn).mono ?_; rintro e w1 ⟨rfl, hb1⟩)
  go_ret
  exact ⟨ret_bool HO.out, hb1⟩

theorem implValidEvents_any (A : Option Addr) (n c : Nat) (l : List Ev) (B : Nat) (w : World) (h : Reads w B 2 A n (evs l)) (hB : B ≤ w.heap.size) (hn : n ≤ 1048576) :
    Calls Tryd.prog 41 #[.slice A n c] w fun e w' => e = .returned (.bool (okEv l)) ∧ Below w.heap.size w w' := by
  have hl := Lib.hid (evs_len h)
  by_cases h2 : n ≤ 200
  · have HO := Lib.hid (show (!!l.all okE) = okEv l from by simp [okEv, hl.out, h2])
    go_enter Tryd.func41, Tryd.ntmps41
    go_wp2_with (go_at_call 79; refine (containsFuncEv_any _ _ _ _ _ _ h hB hn).mono ?_; rintro e w1 ⟨rfl, hb1⟩)
    go_ret
    exact ⟨ret_bool (by rw [← HO.out]; simp), hb1⟩
  · have HO := Lib.hid (show okEv l = false from by simp [okEv, hl.out, h2])
    go_enter Tryd.func41, Tryd.ntmps41
    go_wp2
    go_ret
    exact ⟨ret_bool HO.out.symm, Below.refl _ _⟩

theorem make_ev (n : Nat) (hn : n ≤ 1048576) : ∀ w : World, (Instr.makeSlice 50 (.int .i64 (n : Int)) (.int .i64 (n : Int))).run Tryd.prog w = .ok (.slice (some ⟨w.heap.size, 0, none⟩) n n) (w.alloc (.cells (madeCells #[.int .i64 0, .int .i64 0] (n * 2)) 101)) :=
  run_make_small 50 101 (.agg #[.int .i64 0, .int .i64 0]) 2 16 Tryd.underlying50 (by kernel_rfl) (by decide) n hn

end Go.Proofs.YtjmlcobbjpmjpaaDoor
