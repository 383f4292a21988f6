/- Clients: a contract extended, as the program does it. -/
import Derived.Test.YtbfpadeoalcjeabClN
import Derived.WalkLawsBesides
set_option linter.unusedVariables false
namespace Go.Proofs.Ytbfpadeoalcjeab
open Go.RowKit

set_option maxHeartbeats 2000000 in
set_option maxRecDepth 100000 in
theorem clone_any (b off n c : Nat) (l : List Cl) (B : Nat) (w : World) (h : Reads w B 5 (some ⟨b, off, none⟩) n (cls l)) (hB : B ≤ w.heap.size) (hn : n ≤ 1048576) :
    Calls Try.prog 62 #[.slice (some ⟨b, off, none⟩) n c] w fun e w' => ∃ A' c', e = .returned (.slice A' n c') ∧ Sl w' w.heap.size w'.heap.size 33 5 A' n c' (cls l) ∧ Below w.heap.size w w' := by
  have hl := Lib.hid (cls_len h)
  have hcells := Lib.hid (show ∀ j u, (cls l)[j]? = some u → (w.alloc (.cells #[] 33)).cell? ⟨b, off + j, none⟩ = some u from fun j u hu => by
    rcases Nat.eq_zero_or_pos n with h0 | h0
    · have : (cls l).length = 0 := by rw [cls_length, hl.out, h0]
      rw [List.length_eq_zero_iff.1 this] at hu; simp at hu
    · obtain ⟨b', off', e, _, hc⟩ := (h.on hB ((Below.refl _ _).alloc (Nat.le_refl _) _)).at_ h0
      injection e with e; injection e with e e'; subst e; subst e'
      exact hc j u hu)
  have acc0 := Lib.hid (Acc.made w 33 5)
  clear h
  have hnil := fun W : World => Lib.run_eql_slice_nil (P := Try.prog) W 26 33 (some ⟨b, off, none⟩) n c 0 0 Try.underlying26
  simp only [Option.isNone_some] at hnil
  go_enter Try.func62, Try.ntmps62
  go_wp2_with (at_builtin; refine wpList_accMany rfl _ _ 26 rfl 33 _ 5 48 Try.underlying26 info_cl rfl (by decide) (by decide) acc0.out (Nat.le_refl _) rfl b off n c (cls l) rfl (by rw [cls_length, hl.out]) hcells.out (cls_one l) (by omega) ?_; intro A2 d2 w9 hacc2; rw [Nat.zero_add]; rw [Nat.zero_add, List.nil_append] at hacc2; have HA2 := Lib.hid hacc2; clear hacc2)
  go_ret
  exact ⟨_, _, rfl, HA2.out.sl (Nat.le_refl _) (Nat.le_refl _), HA2.out.below (Nat.le_refl _) (Nat.le_refl _)⟩

set_option maxHeartbeats 2000000 in
theorem implExtendContract_any (A : Option Addr) (n c : Nat) (l : List Cl) (s : ByteArray) (d : Int) (B : Nat) (w : World) (h : Reads w B 5 A n (cls l)) (hB : B ≤ w.heap.size) (hn : n ≤ 1048576) (hsm : ∀ x ∈ l, x.small) (hgd : ∀ x ∈ l, x.good) (hs : s.size ≤ 1048576) (hd : I64 d) :
    Calls Try.prog 33 #[.slice A n c, .string s, .int .i64 d] w fun e w' => ∃ A' m c', e = .returned (.tuple #[.slice A' m c', .int .i64 (extF l s d).2]) ∧ Sl w' w.heap.size w'.heap.size 33 5 A' m c' (cls (extF l s d).1) ∧ Below w.heap.size w w' := by
  have hl := Lib.hid (cls_len h)
  have hcode : ∀ q, Calls Try.prog 53 #[.slice A n c, .string s, .bool q] w fun e w' => e = .returned (.tuple #[.int .i64 (namedF l s q).1, .int .i64 (namedF l s q).2]) ∧ Below w.heap.size w w' := fun q => clientCode_any A n c l s q B w h hB hn hsm hgd
  rcases hq : inR d 1 20000 with _ | _
  · have hz : (namedF l s false).2 ≠ 0 := by
      rcases h1 : okCls l with _ | _
      · rw [namedF_bad h1]; decide
      · rw [namedF_else h1]; decide
    have HO := Lib.hid (extF_bad hq hz)
    have hz' : ((namedF l s false).2 != 0) = true := by simp [hz]
    have HC := Lib.hid (hcode false)
    clear hcode hsm hgd hz
    go_enter Try.func33, Try.ntmps33
    go_wp2_with (first | (go_at_call 49; refine (within_any _ _ _ _).mono ?_; rintro e w2 ⟨rfl, rfl⟩))
    refine HC.out.mono ?_
    rintro e w1 ⟨rfl, b1⟩
    go_wp2
    go_ret2
    rw [HO.out]
    exact ⟨_, _, _, rfl, Sl.nil _ _ _ _ _, b1⟩
  · by_cases hz : (namedF l s true).2 = 0
    · obtain ⟨hok, i, x, hnm, hx⟩ := named_cases hz
      have hin : i < n := by have := (List.getElem?_eq_some_iff.1 hx).1; have := hl.out; omega
      have hto := (okCls_mem hok x (List.mem_of_getElem? hx)).2.2.2.1
      have hfr := (okCls_mem hok x (List.mem_of_getElem? hx)).2.2.1
      have hdr := inR_true.1 hq
      have hi0 : (0 : Int) ≤ i := by omega
      have hi1 : (i : Int) < n := by omega
      have HFar := Lib.hid (extF_far hq hnm hx)
      have HOk := Lib.hid (extF_ok hq hnm hx)
      have HX := Lib.hid hx
      have HC0 := hcode true
      rw [hnm] at HC0
      have HC := Lib.hid HC0
      clear hcode hsm hgd hz hnm hok HC0
      go_enter Try.func33, Try.ntmps33
      go_wp2_with (first | (go_at_call 49; refine (within_any _ _ _ _).mono ?_; rintro e w2 ⟨rfl, rfl⟩))
      refine HC.out.mono ?_
      rintro e w1 ⟨rfl, b1⟩
      obtain ⟨y, b, off, he, rfl, hb, c0, c1, c2, c3, c4⟩ := cl_at (h.on hB b1) hin
      obtain rfl : x = y := by rw [hx] at he; injection he
      have z1 := b1.size
      have H1 := Lib.hid b1
      have h' := h.on hB b1
      clear he hx h b1 hq c0 c1 c2 c4
      by_cases hfar : 20000 < x.to_ + d
      · have HO := Lib.hid (HFar.out hfar)
        go_wp2
        go_ret2
        rw [HO.out]
        exact ⟨_, _, _, rfl, Sl.nil _ _ _ _ _, H1.out⟩
      · have HO := Lib.hid (HOk.out (by omega))
        have hfar1 : decide (20000 < x.to_ + d) = false := decide_eq_false hfar
        go_wp2_with fail
        refine (clone_any b off n c l B _ h' (by omega) hn).mono ?_
        rintro e w2 ⟨A2, c2', rfl, s2, b2⟩
        clear h' c3
        obtain ⟨g, rfl, hg1, hg2, hg3⟩ := s2.lt (by omega)
        obtain ⟨e0, e1, e2, e3, e4⟩ := cls_get HX.out
        have q3 := (s2.cellAt (i * 5 + 3) (by omega)).trans e3
        have hf3 := s2.frozenAt (i * 5 + 3)
        have HS := Lib.hid (s2.set_ (i * 5 + 3) (.int .i64 (x.to_ + d)))
        have HB2 := Lib.hid ((bnext H1.out b2 (Nat.le_refl _)).setCell (p := ⟨g, i * 5 + 3, none⟩) (by simp only; omega) (.int .i64 (x.to_ + d)))
        have hz2 := b2.size
        clear s2 b2 e0 e1 e2 e3 e4
        go_wp2
        go_ret2
        rw [HO.out, cls_set3 _ HX.out]
        exact ⟨_, _, _, rfl, HS.out.wide z1 (by simp), HB2.out⟩
    · have HO := Lib.hid (extF_bad hq hz)
      have hz' : ((namedF l s true).2 != 0) = true := by simp [hz]
      have HC := Lib.hid (hcode true)
      clear hcode hsm hgd hz
      go_enter Try.func33, Try.ntmps33
      go_wp2_with (first | (go_at_call 49; refine (within_any _ _ _ _).mono ?_; rintro e w2 ⟨rfl, rfl⟩))
      refine HC.out.mono ?_
      rintro e w1 ⟨rfl, b1⟩
      go_wp2
      go_ret2
      rw [HO.out]
      exact ⟨_, _, _, rfl, Sl.nil _ _ _ _ _, b1⟩
end Go.Proofs.Ytbfpadeoalcjeab
