/- Bookings: one added, as the program does it. -/
import Derived.Test.YtnlghcpidlpfkaaBkT
import Derived.Test.YtnlghcpidlpfkaaBkB
set_option linter.unusedVariables false
set_option linter.unusedSimpArgs false
namespace Go.Proofs.Ytnlghcpidlpfkaa
open Go.RowKit

set_option maxHeartbeats 2000000 in
set_option maxRecDepth 100000 in
theorem insBk_nil (vb : Nat) (vs : List Value) (w : World) (hv : Blk w vb 45 vs.toArray) (hvl : vs.length = 3) (h1v : ∀ u ∈ vs, u.oneCell' = true) :
    Calls Try.prog 113 #[.slice none 0 0, .int .i64 0, .slice (some ⟨vb, 0, none⟩) 1 1] w fun e w' => ∃ A' c', e = .returned (.slice A' 1 c') ∧ Sl w' w.heap.size w'.heap.size 45 3 A' 1 c' vs ∧ Only w.heap.size w.heap.size w w' := by
  have acc0 := Lib.hid (Acc.nil w 45 3)
  have hcells := Lib.hid (show ∀ j u, vs[j]? = some u → w.cell? ⟨vb, 0 + j, none⟩ = some u from fun j u hu => by rw [Nat.zero_add, hv.cell]; simpa using hu)
  have HV1 := Lib.hid h1v
  clear hv h1v
  go_enter Try.func113, Try.ntmps113
  go_wp2_with (at_builtin; refine wpList_accMany rfl _ _ 41 rfl 45 _ 3 32 Try.underlying41 info_bk rfl (by decide) (by decide) acc0.out (Nat.le_refl _) rfl vb 0 1 1 vs rfl (by omega) hcells.out HV1.out (by omega) ?_; intro A2 d2 w9 hacc2; rw [Nat.zero_add]; rw [Nat.zero_add, List.nil_append] at hacc2; have HA2 := Lib.hid hacc2; clear hacc2)
  go_ret
  exact ⟨_, _, rfl, HA2.out.sl (Nat.le_refl _) (Nat.le_refl _), ⟨HA2.out.os, HA2.out.tape, HA2.out.output, HA2.out.size, fun k hk hd => HA2.out.block k hk (by omega)⟩⟩
theorem insBk_any (A : Option Addr) (n c i vb lo hi : Nat) (xs vs : List Value) (w : World) (h : Sl w lo hi 45 3 A n c xs) (hlo : lo ≤ w.heap.size) (hhi : hi ≤ w.heap.size) (hi' : i ≤ n) (hn : n ≤ 1000000) (h1x : ∀ u ∈ xs, u.oneCell' = true) (hv : Blk w vb 45 vs.toArray) (hvl : vs.length = 3) (hvb : vb < lo ∨ hi ≤ vb) (h1v : ∀ u ∈ vs, u.oneCell' = true) :
    Calls Try.prog 113 #[.slice A n c, .int .i64 i, .slice (some ⟨vb, 0, none⟩) 1 1] w fun e w' => ∃ A' c', e = .returned (.slice A' (n + 1) c') ∧ Sl w' lo w'.heap.size 45 3 A' (n + 1) c' (xs.take (i * 3) ++ vs ++ xs.drop (i * 3)) ∧ Only lo w.heap.size w w' := by
  have hxl := h.len
  rcases h.1.2 with ⟨h', _⟩ | ⟨g, cap, cur, h', hg1, hg, hnc, hcm, hcs, ht⟩
  · injection h' with e1 e2 e3
    subst e1 e2 e3
    obtain rfl : i = 0 := by omega
    have hx0 : xs = [] := List.eq_nil_of_length_eq_zero (by omega)
    subst hx0
    refine (insBk_nil vb vs w hv hvl h1v).mono ?_
    rintro e w' ⟨A', c', rfl, s, o⟩
    exact ⟨A', c', rfl, by simpa using s.wide hlo (Nat.le_refl _), o.wide hlo (Nat.le_refl _)⟩
  · injection h' with e1 e2 e3
    subst e1 e3
    have hg2 : g < hi := h.2 _ rfl
    rcases Nat.lt_or_ge i n with hlt | hge
    · by_cases hroom : n + 1 ≤ c
      · exact insBk_shift g n c i vb lo hi cur.toList xs vs w hg (by simpa using hcs) ht hg1 hg2 hhi hlt hroom hn hcm h1x hv hvl (by omega) h1v
      · obtain rfl : c = n := by omega
        exact insBk_grow g c i vb lo hi xs vs w hxl (fun j u hu => by
          have hj : j < c * 3 := by rw [← hxl]; exact (List.getElem?_eq_some_iff.1 hu).1
          exact (h.cellAt j hj).trans hu) hg1 hg2 hhi hlt hn h1x hv hvl (by omega) h1v
    · obtain rfl : i = n := by omega
      rw [List.take_of_length_le (by omega), List.drop_eq_nil_of_le (by omega), List.append_nil]
      exact insBk_end g i c vb lo hi xs vs w h hhi hn (by unfold maxLen at hcm; omega) hv hvl h1v

set_option maxHeartbeats 2000000 in
set_option maxRecDepth 100000 in
theorem cloneBk_any (b off n c : Nat) (l : List Bk) (B : Nat) (w : World) (h : Reads w B 3 (some ⟨b, off, none⟩) n (bks l)) (hB : B ≤ w.heap.size) (hn : n ≤ 1048576) :
    Calls Try.prog 114 #[.slice (some ⟨b, off, none⟩) n c] w fun e w' => ∃ A' c', e = .returned (.slice A' n c') ∧ Sl w' w.heap.size w'.heap.size 45 3 A' n c' (bks l) ∧ Below w.heap.size w w' := by
  have hl := Lib.hid (bks_len h)
  have hcells := Lib.hid (show ∀ j u, (bks l)[j]? = some u → (w.alloc (.cells #[] 45)).cell? ⟨b, off + j, none⟩ = some u from fun j u hu => by
    rcases Nat.eq_zero_or_pos n with h0 | h0
    · have : (bks l).length = 0 := by rw [bks_length, hl.out, h0]
      rw [List.length_eq_zero_iff.1 this] at hu; simp at hu
    · obtain ⟨b', off', e, _, hc⟩ := (h.on hB ((Below.refl _ _).alloc (Nat.le_refl _) _)).at_ h0
      injection e with e; injection e with e e'; subst e; subst e'
      exact hc j u hu)
  have acc0 := Lib.hid (Acc.made w 45 3)
  clear h
  have hnil := fun W : World => Lib.run_eql_slice_nil (P := Try.prog) W 41 45 (some ⟨b, off, none⟩) n c 0 0 Try.underlying41
  simp only [Option.isNone_some] at hnil
  go_enter Try.func114, Try.ntmps114
  go_wp2_with (at_builtin; refine wpList_accMany rfl _ _ 41 rfl 45 _ 3 32 Try.underlying41 info_bk rfl (by decide) (by decide) acc0.out (Nat.le_refl _) rfl b off n c (bks l) rfl (by rw [bks_length, hl.out]) hcells.out (bks_one l) (by omega) ?_; intro A2 d2 w9 hacc2; rw [Nat.zero_add]; rw [Nat.zero_add, List.nil_append] at hacc2; have HA2 := Lib.hid hacc2; clear hacc2)
  go_ret
  exact ⟨_, _, rfl, HA2.out.sl (Nat.le_refl _) (Nat.le_refl _), HA2.out.below (Nat.le_refl _) (Nat.le_refl _)⟩

theorem late1_any (y : Bk) (d : Int) (gb : Nat) (w : World) (hc : w.cell? ⟨gb, 0, none⟩ = some (.int .i64 d)) :
    Calls Try.prog 112 #[.agg #[.int .i64 y.day, .string y.client, .int .i64 y.amount], .pointer (some ⟨gb, 0, none⟩)] w fun e w' => e = .returned (.bool (lateB d y)) ∧ Below w.heap.size w w' := by
  have hg : gb < w.heap.size := World.block_lt_of_cell? w _ hc
  go_enter Try.func112, Try.ntmps112
  go_wp2_with fail
  have hc' : (w.alloc (.cells #[.int .i64 y.day, .string y.client, .int .i64 y.amount] 45)).cell? ⟨gb, 0, none⟩ = some (.int .i64 d) := cell_on ((Below.refl _ _).alloc (Nat.le_refl _) _) hc
  go_wp2
  go_ret
  exact ⟨rfl, (Below.refl _ _).alloc (Nat.le_refl _) _⟩

set_option maxHeartbeats 2000000 in
theorem idxBk_any (g n c : Nat) (l : List Bk) (d : Int) (gb : Nat) (B : Nat) (w : World) (h : Reads w B 3 (some ⟨g, 0, none⟩) n (bks l)) (hB : B ≤ w.heap.size) (hn : n ≤ 1048576) (hc : w.cell? ⟨gb, 0, none⟩ = some (.int .i64 d)) :
    Calls Try.prog 111 #[.slice (some ⟨g, 0, none⟩) n c, .func (.func 112) #[] #[.pointer (some ⟨gb, 0, none⟩)]] w fun e w' => e = .returned (.int .i64 (idxI (lateB d) l)) ∧ Below w.heap.size w w' := by
  have hl := Lib.hid (bks_len h)
  go_enter Try.func111, Try.ntmps111
  go_wp2
  go_loopw [8] (fun i wr => ∃ k : Nat, k ≤ n ∧ i = .int .i64 k ∧ AllTo (fun y => !lateB d y) l k ∧ Below w.heap.size w wr) (fun i _ => n - (intOf i).toNat)
  case atStart => exact ⟨0, Nat.zero_le _, rfl, AllTo.zero _ _, Below.refl _ _⟩
  case round =>
    obtain ⟨k, hk, rfl, hall, hbel⟩ := hrel
    have HA := Lib.hid hall
    have HB := Lib.hid hbel
    clear hall
    by_cases hlt : k < n
    · obtain ⟨y, b', off', hy, e2, hb', d0, d1, d2⟩ := bk_at (h.on hB hbel) hlt
      injection e2 with e2; injection e2 with e2 e2'; subst e2; subst e2'
      simp only [Nat.zero_add] at d0 d1 d2
      have HY := Lib.hid hy
      have hcr := cell_on hbel hc
      clear hy hbel h
      go_wp2_with fail
      refine (late1_any y d gb _ hcr).mono ?_
      rintro e w1 ⟨rfl, b1⟩
      have HF := Lib.hid (bnext HB.out b1 (Nat.le_refl _))
      clear b1 hcr d0 d1 d2
      rcases hla : lateB d y with _ | _
      · go_wp2
        go_roundw
        case rel => exact ⟨k + 1, by omega, by go_num, HA.out.step HY.out (by simp [hla]), HF.out⟩
        case measure => simp [intOf]; omega
      · have HO := Lib.hid (show idxI (lateB d) l = k from idxI_found HY.out hla HA.out)
        go_wp2
        go_ret
        exact ⟨ret_int HO.out.symm, HF.out⟩
    · obtain rfl : k = n := by omega
      have HO := Lib.hid (show idxI (lateB d) l = -1 from idxI_none HA.out hl.out)
      go_wp2
      go_ret
      exact ⟨ret_int HO.out.symm, HB.out⟩

end Go.Proofs.Ytnlghcpidlpfkaa
