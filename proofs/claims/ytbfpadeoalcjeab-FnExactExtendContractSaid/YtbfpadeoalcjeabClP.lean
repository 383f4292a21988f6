/- Clients: a contract extended, as the reference says it. -/
import Derived.Test.YtbfpadeoalcjeabClN
set_option linter.unusedVariables false
namespace Go.Proofs.Ytbfpadeoalcjeab
open Go.RowKit

set_option maxHeartbeats 4000000 in
set_option maxRecDepth 100000 in
theorem specExtendContract_any (A : Option Addr) (n c : Nat) (l : List Cl) (s : ByteArray) (d : Int) (B : Nat) (w : World) (h : Reads w B 5 A n (cls l)) (hB : B ≤ w.heap.size) (hn : n ≤ 1048576) (hsm : ∀ x ∈ l, x.small) (hgd : ∀ x ∈ l, x.good) (hs : s.size ≤ 1048576) (hd : I64 d) :
    Calls Try.prog 32 #[.slice A n c, .string s, .int .i64 d] w fun e w' => ∃ A' m c', e = .returned (.tuple #[.slice A' m c', .int .i64 (extF l s d).2]) ∧ Sl w' w.heap.size w'.heap.size 33 5 A' m c' (cls (extF l s d).1) ∧ Below w.heap.size w w' := by
  have hl := Lib.hid (cls_len h)
  rcases h1 : okCls l with _ | _
  · have HO := Lib.hid (show extF l s d = ([], 1) by rw [extF_bad rfl (by rw [namedF_bad h1]; decide), namedF_bad h1])
    go_enter Try.func32, Try.ntmps32
    go_wp2_with (first | (go_at_call 44; refine (l24Ok_any A n c l B _ h hB hn hsm hgd).mono ?_; rintro e w1 ⟨rfl, b1⟩) | (go_at_call 45; refine (l00In_any _ _ _ _).mono ?_; rintro e w2 ⟨rfl, rfl⟩) | (go_at_call 60; refine (l24Find_any A n c l s B _ (h.on hB b1) hn).mono ?_; rintro e w2 ⟨rfl, rfl⟩))
    go_ret2
    rw [HO.out]
    exact ⟨_, _, _, rfl, Sl.nil _ _ _ _ _, b1⟩
  · rcases hq : inR d 1 20000 with _ | _
    · have HO := Lib.hid (show extF l s d = ([], 2) by rw [extF_bad hq (by rw [namedF_else h1]; decide), namedF_else h1])
      go_enter Try.func32, Try.ntmps32
      go_wp2_with (first | (go_at_call 44; refine (l24Ok_any A n c l B _ h hB hn hsm hgd).mono ?_; rintro e w1 ⟨rfl, b1⟩) | (go_at_call 45; refine (l00In_any _ _ _ _).mono ?_; rintro e w2 ⟨rfl, rfl⟩) | (go_at_call 60; refine (l24Find_any A n c l s B _ (h.on hB b1) hn).mono ?_; rintro e w2 ⟨rfl, rfl⟩))
      go_ret2
      rw [HO.out]
      exact ⟨_, _, _, rfl, Sl.nil _ _ _ _ _, b1⟩
    · by_cases h4 : placeOf l s < 0
      · have HO := Lib.hid (show extF l s d = ([], 3) by rw [extF_bad hq (by rw [namedF_none h1 h4]; decide), namedF_none h1 h4])
        go_enter Try.func32, Try.ntmps32
        go_wp2_with (first | (go_at_call 44; refine (l24Ok_any A n c l B _ h hB hn hsm hgd).mono ?_; rintro e w1 ⟨rfl, b1⟩) | (go_at_call 45; refine (l00In_any _ _ _ _).mono ?_; rintro e w2 ⟨rfl, rfl⟩) | (go_at_call 60; refine (l24Find_any A n c l s B _ (h.on hB b1) hn).mono ?_; rintro e w2 ⟨rfl, rfl⟩))
        go_ret2
        rw [HO.out]
        exact ⟨_, _, _, rfl, Sl.nil _ _ _ _ _, b1⟩
      · obtain ⟨i, x, hi, hx⟩ := placeOf_range h4
        have hin : i < n := by have := (List.getElem?_eq_some_iff.1 hx).1; have := hl.out; omega
        have hnm : namedF l s true = ((i : Int), 0) := by rw [namedF_some h1 h4, hi]
        have hto := (okCls_mem h1 x (List.mem_of_getElem? hx)).2.2.2.1
        have hfr := (okCls_mem h1 x (List.mem_of_getElem? hx)).2.2.1
        have hdr := inR_true.1 hq
        have hi0 : (0 : Int) ≤ i := by omega
        have hi1 : (i : Int) < n := by omega
        have HFar := Lib.hid (extF_far hq hnm hx)
        have HOk := Lib.hid (extF_ok hq hnm hx)
        have HX := Lib.hid hx
        have HI := Lib.hid hi
        clear hnm h4 hi
        go_enter Try.func32, Try.ntmps32
        go_wp2_with fail
        refine (l24Ok_any A n c l B _ h hB hn hsm hgd).mono ?_
        rintro e w1 ⟨rfl, b1⟩
        obtain ⟨y, b, off, he, rfl, hb, c0, c1, c2, c3, c4⟩ := cl_at (h.on hB b1) hin
        obtain rfl : x = y := by rw [hx] at he; injection he
        have z1 := b1.size
        have H1 := Lib.hid b1
        have h' := Lib.hid (h.on hB b1)
        have hcells := Lib.hid (show ∀ j u, (cls l)[j]? = some u → (w1.alloc (.cells #[] 33)).cell? ⟨b, off + j, none⟩ = some u from fun j u hu => by
          obtain ⟨b', off', e, _, hc⟩ := ((h.on hB b1).on (by omega) ((Below.refl _ _).alloc (Nat.le_refl _) _)).at_ (by omega)
          injection e with e; injection e with e e'; subst e; subst e'
          exact hc j u hu)
        have acc0 := Lib.hid (Acc.made w1 33 5)
        clear he hx h b1 c0 c1 c2 c4 hsm hgd
        by_cases hfar : 20000 < x.to_ + d
        · have HO := Lib.hid (HFar.out hfar)
          go_wp2_with (first | (go_at_call 45; refine (l00In_any _ _ _ _).mono ?_; rintro e w2 ⟨rfl, rfl⟩) | (go_at_call 60; refine (l24Find_any _ n c l s B _ h'.out hn).mono ?_; rw [HI.out]; rintro e w2 ⟨rfl, rfl⟩))
          go_ret2
          rw [HO.out]
          exact ⟨_, _, _, rfl, Sl.nil _ _ _ _ _, H1.out⟩
        · have HO := Lib.hid (HOk.out (by omega))
          have hfar1 : decide (20000 < x.to_ + d) = false := decide_eq_false hfar
          go_wp2_with (first | (go_at_call 45; refine (l00In_any _ _ _ _).mono ?_; rintro e w2 ⟨rfl, rfl⟩) | (go_at_call 60; refine (l24Find_any _ n c l s B _ h'.out hn).mono ?_; rw [HI.out]; rintro e w2 ⟨rfl, rfl⟩) | (at_builtin; refine wpList_accMany rfl _ _ 26 rfl 33 _ 5 48 Try.underlying26 info_cl rfl (by decide) (by decide) acc0.out (Nat.le_refl _) rfl b off n c (cls l) rfl (by rw [cls_length, hl.out]) hcells.out (cls_one l) (by omega) ?_; intro A2 d2 w9 hacc2; rw [Nat.zero_add]; rw [Nat.zero_add, List.nil_append] at hacc2; have HA2 := Lib.hid hacc2; clear hacc2; have s2 := HA2.out.sl (Nat.le_refl _) (Nat.le_refl _); have hz2 := HA2.out.size; obtain ⟨g, rfl, hg1, hg2, hg3⟩ := s2.lt (by omega); obtain ⟨e0, e1, e2, e3, e4⟩ := cls_get HX.out; have q0 := (s2.cellAt (i * 5) (by omega)).trans e0; have q1 := (s2.cellAt (i * 5 + 1) (by omega)).trans e1; have q2 := (s2.cellAt (i * 5 + 2) (by omega)).trans e2; have q3 := (s2.cellAt (i * 5 + 3) (by omega)).trans e3; have q4 := (s2.cellAt (i * 5 + 4) (by omega)).trans e4; have f0 := s2.frozenAt (i * 5); have f1 := s2.frozenAt (i * 5 + 1); have f2 := s2.frozenAt (i * 5 + 2); have f3 := s2.frozenAt (i * 5 + 3); have f4 := s2.frozenAt (i * 5 + 4)))
          have HB := Lib.hid (H1.out.trans (HA2.out.below z1 z1))
          have t0 := s2.set_ (i * 5) (.string x.name)
          rw [set_same e0] at t0
          have t1 := t0.set_ (i * 5 + 1) (.int .i64 x.station)
          rw [set_same e1] at t1
          have t2 := t1.set_ (i * 5 + 2) (.int .i64 x.from_)
          rw [set_same e2] at t2
          have t3 := t2.set_ (i * 5 + 3) (.int .i64 (x.to_ + d))
          have t4 := t3.set_ (i * 5 + 4) (.int .i64 x.quota)
          rw [set_same (show ((cls l).set (i * 5 + 3) (.int .i64 (x.to_ + d)))[i * 5 + 4]? = some (.int .i64 x.quota) by rw [List.getElem?_set_ne (by omega)]; exact e4)] at t4
          go_ret2
          rw [HO.out, cls_set3 _ HX.out]
          have hgw : w.heap.size ≤ g := by omega
          exact ⟨_, _, _, rfl, (t4.on ((Below.refl _ _).alloc (Nat.le_refl _) _)).wide z1 (by simp), (((((HB.out.setCell (p := ⟨g, i * 5, none⟩) hgw _).setCell (p := ⟨g, i * 5 + 1, none⟩) hgw _).setCell (p := ⟨g, i * 5 + 2, none⟩) hgw _).setCell (p := ⟨g, i * 5 + 3, none⟩) hgw _).setCell (p := ⟨g, i * 5 + 4, none⟩) hgw _).alloc (by simp; omega) _⟩
end Go.Proofs.Ytbfpadeoalcjeab
