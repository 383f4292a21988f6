/- Events: the program's test of a list of events, the copies that the law makes, marks. -/
import Derived.Test.YtnlghcpidlpfkaaEvA
set_option linter.unusedVariables false
namespace Go.Proofs.Ytnlghcpidlpfkaa
open Go.RowKit

theorem validEv1_any (s hh : Int) (w : World) : Calls Try.prog 205 #[.agg #[.int .i64 s, .int .i64 hh]] w fun e w' => e = .returned (.bool (!(inR s 0 9 && inR hh 0 23))) ∧ Below w.heap.size w w' := by
  by_cases h1 : inR s 0 9 = true
  · by_cases h2 : inR hh 0 23 = true
    · go_enter Try.func205, Try.ntmps205
      go_wp2_with (go_at_call 157; refine (within_any _ _ _ _).mono ?_; rintro e w' ⟨rfl, rfl⟩)
      go_ret
      exact ⟨ret_bool (by simp [h1, h2]), (Below.refl _ _).alloc (Nat.le_refl _) _⟩
    · have h2 : inR hh 0 23 = false := by simpa using h2
      go_enter Try.func205, Try.ntmps205
      go_wp2_with (go_at_call 157; refine (within_any _ _ _ _).mono ?_; rintro e w' ⟨rfl, rfl⟩)
      go_ret
      exact ⟨ret_bool (by simp [h2]), (Below.refl _ _).alloc (Nat.le_refl _) _⟩
  · have h1 : inR s 0 9 = false := by simpa using h1
    go_enter Try.func205, Try.ntmps205
    go_wp2_with (go_at_call 157; refine (within_any _ _ _ _).mono ?_; rintro e w' ⟨rfl, rfl⟩)
    go_ret
    exact ⟨ret_bool (by simp [h1]), (Below.refl _ _).alloc (Nat.le_refl _) _⟩

theorem indexFuncEv_any (A : Option Addr) (n c B : Nat) (l : List Ev) (w : World) (h : Reads w B 2 A n (evs l)) (hB : B ≤ w.heap.size) (hn : n ≤ 1048576) :
    Calls Try.prog 232 #[.slice A n c, .func (.func 205) #[] #[]] w
      fun e w' => e = .returned (.int .i64 (idxI (fun x => !okE x) l)) ∧ Below w.heap.size w w' := by
  have hl := Lib.hid (evs_len h)
  go_enter Try.func232, Try.ntmps232
  go_wp2
  go_loopw [8] (fun i wr => ∃ k : Nat, k ≤ n ∧ i = .int .i64 k ∧ AllTo okE l k ∧ Below w.heap.size w wr) (fun i _ => n - (intOf i).toNat)
  case atStart => exact ⟨0, Nat.zero_le _, rfl, AllTo.zero _ _, Below.refl _ _⟩
  case round =>
    obtain ⟨k, hk, rfl, hall, hbel⟩ := hrel
    have HA := Lib.hid hall
    clear hall
    by_cases hlt : k < n
    · obtain ⟨⟨s, hh⟩, b, off, he, rfl, hb, c0, c1⟩ := ev_at (h.on hB hbel) hlt
      have HE := Lib.hid he
      clear he
      simp only at c0 c1
      by_cases h1 : inR s 0 9 && inR hh 0 23
      · have HO := Lib.hid (show okE ⟨s, hh⟩ = true from h1)
        go_wp2_with (go_at_call 205; refine (validEv1_any _ _ _).mono ?_; rintro e w1 ⟨rfl, hb1⟩)
        go_roundw
        case rel => exact ⟨k + 1, by omega, by go_num, HA.out.step HE.out HO.out, bnext hbel hb1 (Nat.le_refl _)⟩
        case measure => simp [intOf]; omega
      · have h1 : (inR s 0 9 && inR hh 0 23) = false := by simpa using h1
        have HO := Lib.hid (show idxI (fun x => !okE x) l = k from idxI_found HE.out (by simp [okE, h1]) (HA.out.imp fun x hx => by simp [hx]))
        go_wp2_with (go_at_call 205; refine (validEv1_any _ _ _).mono ?_; rintro e w1 ⟨rfl, hb1⟩)
        go_ret
        exact ⟨ret_int HO.out.symm, bnext hbel hb1 (Nat.le_refl _)⟩
    · obtain rfl : k = n := by omega
      have HO := Lib.hid (show idxI (fun x => !okE x) l = -1 from idxI_none (HA.out.imp fun x hx => by simp [hx]) hl.out)
      go_wp2
      go_ret
      exact ⟨ret_int HO.out.symm, hbel⟩

theorem containsFuncEv_any (A : Option Addr) (n c B : Nat) (l : List Ev) (w : World) (h : Reads w B 2 A n (evs l)) (hB : B ≤ w.heap.size) (hn : n ≤ 1048576) :
    Calls Try.prog 204 #[.slice A n c, .func (.func 205) #[] #[]] w
      fun e w' => e = .returned (.bool (!l.all okE)) ∧ Below w.heap.size w w' := by
  have HO := Lib.hid (show decide (0 ≤ idxI (fun x => !okE x) l) = !l.all okE from by rw [idxI_nonneg]; simp [List.any_eq_not_all_not])
  go_enter Try.func204, Try.ntmps204
  go_wp2_with (go_at_call 232; refine (indexFuncEv_any _ _ _ _ _ _ h hB hn).mono ?_; rintro e w1 ⟨rfl, hb1⟩)
  go_ret
  exact ⟨ret_bool HO.out, hb1⟩

theorem implValidEvents_any (A : Option Addr) (n c : Nat) (l : List Ev) (B : Nat) (w : World) (h : Reads w B 2 A n (evs l)) (hB : B ≤ w.heap.size) (hn : n ≤ 1048576) :
    Calls Try.prog 133 #[.slice A n c] w fun e w' => e = .returned (.bool (okEv l)) ∧ Below w.heap.size w w' := by
  have hl := Lib.hid (evs_len h)
  by_cases h2 : n ≤ 200
  · have HO := Lib.hid (show (!!l.all okE) = okEv l from by simp [okEv, hl.out, h2])
    go_enter Try.func133, Try.ntmps133
    go_wp2_with (go_at_call 204; refine (containsFuncEv_any _ _ _ _ _ _ h hB hn).mono ?_; rintro e w1 ⟨rfl, hb1⟩)
    go_ret
    exact ⟨ret_bool (by rw [← HO.out]; simp), hb1⟩
  · have HO := Lib.hid (show okEv l = false from by simp [okEv, hl.out, h2])
    go_enter Try.func133, Try.ntmps133
    go_wp2
    go_ret
    exact ⟨ret_bool HO.out.symm, Below.refl _ _⟩

theorem szEventS_any (A : Option Addr) (n c : Nat) (l : List Ev) (q : Int) (B : Nat) (w : World) (h : Reads w B 2 A n (evs l)) (hq0 : 0 ≤ q) (hq : q ≤ 1048576) (hn : n ≤ 9223372036854775807) :
    Calls Try.prog 35 #[.slice A n c, .int .i64 q] w fun e w' => ∃ r : Int, e = .returned (.int .i64 r) ∧ w = w' ∧ (r < 0 ∨ (0 ≤ r ∧ r ≤ q ∧ (n : Int) ≤ q ∧ True)) := by
  by_cases h : (n : Int) ≤ q
  · go_enter Try.func35, Try.ntmps35
    go_wp2
    go_ret
    exact ⟨_, rfl, rfl, .inr ⟨by omega, by omega, h, trivial⟩⟩
  · go_enter Try.func35, Try.ntmps35
    go_wp2
    go_ret
    exact ⟨_, rfl, rfl, .inl (by omega)⟩

theorem toEvent_any (s h : Int) (w : World) : Calls Try.prog 132 #[.agg #[.int .i64 s, .int .i64 h]] w fun e w' => e = .returned (.agg #[.int .i64 s, .int .i64 h]) ∧ Below w.heap.size w w' := by
  go_enter Try.func132, Try.ntmps132
  go_wp2
  exact bodyPost_ret (v := .agg #[.int .i64 s, .int .i64 h]) (by simp [results, Try.results132, go_sem]) rfl ⟨rfl, ((((Below.refl _ _).alloc (Nat.le_refl _) _).alloc (by simp) _).alloc (by simp; omega) _)⟩

theorem make_ev (n : Nat) (hn : n ≤ 1048576) : ∀ w : World, (Instr.makeSlice 72 (.int .i64 (n : Int)) (.int .i64 (n : Int))).run Try.prog w = .ok (.slice (some ⟨w.heap.size, 0, none⟩) n n) (w.alloc (.cells (madeCells #[.int .i64 0, .int .i64 0] (n * 2)) 156)) :=
  run_make_small 72 156 (.agg #[.int .i64 0, .int .i64 0]) 2 16 Try.underlying72 (by kernel_rfl) (by decide) n hn

theorem toEventS_any (A : Option Addr) (n c B : Nat) (l : List Ev) (w : World) (h : Reads w B 2 A n (evs l)) (hB : B ≤ w.heap.size) (hn : n ≤ 1048576) :
    Calls Try.prog 37 #[.slice A n c] w fun e w' => ∃ g, e = .returned (.slice (some ⟨g, 0, none⟩) n n) ∧ Sl w' w.heap.size w'.heap.size 156 2 (some ⟨g, 0, none⟩) n n (evs l) ∧ Below w.heap.size w w' := by
  have hmk := make_ev n hn
  go_enter Try.func37, Try.ntmps37
  go_wp2
  have hb0 := Blk.new w 156 (madeCells #[.int .i64 0, .int .i64 0] (n * 2))
  go_loopw [4] (fun i wr => ∃ (k : Nat) (cs : Array Value), k ≤ n ∧ i = .int .i64 k ∧ Blk wr w.heap.size 156 cs ∧ cs.size = n * 2 ∧ Fill cs (evs l) (k * 2) ∧ Below w.heap.size w wr) (fun i _ => n - (intOf i).toNat)
  case atStart => exact ⟨0, _, Nat.zero_le _, rfl, hb0, size_madeCells _ _, Fill.zero _ _, (Below.refl _ _).alloc (Nat.le_refl _) _⟩
  case round =>
    obtain ⟨k, cs, hk, rfl, hblk, hcs, hfill, hbel⟩ := hrel
    clear hmk hb0
    have HF := Lib.hid hfill
    have HC := Lib.hid hcs
    have HBk := Lib.hid hblk
    have hgl := hblk.lt
    clear hfill hcs hblk
    by_cases hlt : k < n
    · obtain ⟨⟨s, hh⟩, b, off, he, rfl, hb, c0, c1⟩ := ev_at (h.on hB hbel) hlt
      have HE := Lib.hid (evs_get he)
      clear he
      simp only at c0 c1
      go_wp2_with (go_at_call 132; refine (toEvent_any _ _ _).mono ?_; rintro e w1 ⟨rfl, hb1⟩; have HB1 := Lib.hid hb1; have hblk1 := HBk.out.below hb1 hgl; have hs0 := hblk1.cellAt (k * 2) (by have := HC.out; omega); have hs1 := hblk1.cellAt (k * 2 + 1) (by have := HC.out; omega); have f0 := hblk1.frozen (k * 2); have f1 := hblk1.frozen (k * 2 + 1); clear hb1; have HBk1 := Lib.hid hblk1; clear hblk1)
      go_roundw
      case rel =>
        refine ⟨k + 1, _, by omega, by go_num, (HBk1.out.set_ _ _).set_ _ _, by simp [HC.out], ?_, ((bnext hbel HB1.out (Nat.le_refl _)).setCell (Nat.le_refl _) _).setCell (Nat.le_refl _) _⟩
        rw [show (k + 1) * 2 = k * 2 + 1 + 1 from by omega]
        exact (HF.out.step HE.out.1 (by have := HC.out; omega)).step HE.out.2 (by have := HC.out; simp; omega)
      case measure => simp [intOf]; omega
    · obtain rfl : k = n := by omega
      go_wp2
      go_ret
      refine ⟨_, rfl, Sl.of_blk ?_ (Nat.le_refl _) hgl h.1 (by unfold maxLen; omega), hbel⟩
      rw [← HF.out.done HC.out h.1]
      exact HBk.out
end Go.Proofs.Ytnlghcpidlpfkaa
