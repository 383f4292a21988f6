/- Clients: what is left of a quota. -/
import Derived.Test.YtnlghcpidlpfkaaClH
import Derived.Test.YtnlghcpidlpfkaaMax
set_option linter.unusedVariables false
namespace Go.Proofs.Ytnlghcpidlpfkaa
open Go.RowKit

def leftF (l : List Cl) (s : ByteArray) (d u : Int) : Int × Int :=
  if (namedF l s (inR d 0 20000 && inR u 0 100000)).2 = 0 then (match l[(namedF l s (inR d 0 20000 && inR u 0 100000)).1.toNat]? with
    | none => (0, 0)
    | some x => if active x d = true then (pos0 (x.quota - u), 0) else (0, 6)) else (0, (namedF l s (inR d 0 20000 && inR u 0 100000)).2)
theorem leftF_bad {l : List Cl} {s : ByteArray} {d u : Int} {q : Bool} (hq : (inR d 0 20000 && inR u 0 100000) = q) (h : (namedF l s q).2 ≠ 0) : leftF l s d u = (0, (namedF l s q).2) := by subst hq; simp only [leftF, h, if_false]
theorem leftF_off {l : List Cl} {s : ByteArray} {d u : Int} {i : Nat} {x : Cl} (hq : (inR d 0 20000 && inR u 0 100000) = true) (h : namedF l s true = ((i : Int), 0)) (hx : l[i]? = some x) (ha : active x d = false) : leftF l s d u = (0, 6) := by simp [leftF, hq, h, hx, ha]
theorem leftF_ok {l : List Cl} {s : ByteArray} {d u : Int} {i : Nat} {x : Cl} (hq : (inR d 0 20000 && inR u 0 100000) = true) (h : namedF l s true = ((i : Int), 0)) (hx : l[i]? = some x) (ha : active x d = true) : leftF l s d u = (pos0 (x.quota - u), 0) := by simp [leftF, hq, h, hx, ha]

set_option maxHeartbeats 2000000 in
theorem specLeftOfQuota_any (A : Option Addr) (n c : Nat) (l : List Cl) (s : ByteArray) (d u : Int) (B : Nat) (w : World) (h : Reads w B 5 A n (cls l)) (hB : B ≤ w.heap.size) (hn : n ≤ 1048576) (hsm : ∀ x ∈ l, x.small) (hgd : ∀ x ∈ l, x.good) (hs : s.size ≤ 1048576) (hd : I64 d) (hu : I64 u) :
    Calls Try.prog 79 #[.slice A n c, .string s, .int .i64 d, .int .i64 u] w fun e w' => e = .returned (.tuple #[.int .i64 (leftF l s d u).1, .int .i64 (leftF l s d u).2]) ∧ Below w.heap.size w w' := by
  have hl := Lib.hid (cls_len h)
  rcases h1 : okCls l with _ | _
  · have HO := Lib.hid (show leftF l s d u = (0, 1) by
      have hx : namedF l s (inR d 0 20000 && inR u 0 100000) = (0, 1) := namedF_bad h1
      rw [leftF_bad rfl (by rw [hx]; decide), hx])
    go_enter Try.func79, Try.ntmps79
    go_wp2_with fail
    refine (l24Ok_any A n c l B _ h hB hn hsm hgd).mono ?_
    rintro e w1 ⟨rfl, b1⟩
    go_wp2
    go_ret2
    rw [HO.out]
    exact ⟨rfl, b1⟩
  · rcases h2 : inR d 0 20000 with _ | _
    · have HO := Lib.hid (show leftF l s d u = (0, 2) by
        have hx := namedF_else (s := s) h1
        rw [leftF_bad (q := false) (by rw [h2]; rfl) (by rw [hx]; decide), hx])
      go_enter Try.func79, Try.ntmps79
      go_wp2_with fail
      refine (l24Ok_any A n c l B _ h hB hn hsm hgd).mono ?_
      rintro e w1 ⟨rfl, b1⟩
      go_wp2_with (go_at_call 168; refine (l24Day_any _ _).mono ?_; rintro e w2 ⟨rfl, rfl⟩)
      go_ret2
      rw [HO.out]
      exact ⟨rfl, b1⟩
    · rcases h3 : inR u 0 100000 with _ | _
      · have HO := Lib.hid (show leftF l s d u = (0, 2) by
          have hx := namedF_else (s := s) h1
          rw [leftF_bad (q := false) (by rw [h2, h3]; rfl) (by rw [hx]; decide), hx])
        go_enter Try.func79, Try.ntmps79
        go_wp2_with fail
        refine (l24Ok_any A n c l B _ h hB hn hsm hgd).mono ?_
        rintro e w1 ⟨rfl, b1⟩
        go_wp2_with (first | (go_at_call 168; refine (l24Day_any _ _).mono ?_; rintro e w2 ⟨rfl, rfl⟩) | (go_at_call 159; refine (l00In_any _ _ _ _).mono ?_; rintro e w2 ⟨rfl, rfl⟩))
        go_ret2
        rw [HO.out]
        exact ⟨rfl, b1⟩
      · have hq : (inR d 0 20000 && inR u 0 100000) = true := by rw [h2, h3]; rfl
        by_cases h4 : placeOf l s < 0
        · have HO := Lib.hid (show leftF l s d u = (0, 3) by
            have hx := namedF_none h1 h4
            rw [leftF_bad hq (by rw [hx]; decide), hx])
          go_enter Try.func79, Try.ntmps79
          go_wp2_with fail
          refine (l24Ok_any A n c l B _ h hB hn hsm hgd).mono ?_
          rintro e w1 ⟨rfl, b1⟩
          go_wp2_with (first | (go_at_call 168; refine (l24Day_any _ _).mono ?_; rintro e w2 ⟨rfl, rfl⟩) | (go_at_call 159; refine (l00In_any _ _ _ _).mono ?_; rintro e w2 ⟨rfl, rfl⟩) | (go_at_call 99; refine (l24Find_any A n c l s B _ (h.on hB b1) hn).mono ?_; rintro e w2 ⟨rfl, rfl⟩))
          go_ret2
          rw [HO.out]
          exact ⟨rfl, b1⟩
        · obtain ⟨i, x, hi, hx⟩ := placeOf_range h4
          have hin : i < n := by have := (List.getElem?_eq_some_iff.1 hx).1; have := hl.out; omega
          have hnm : namedF l s true = ((i : Int), 0) := by rw [namedF_some h1 h4, hi]
          have hcl := okCls_mem h1 x (List.mem_of_getElem? hx)
          have hqt := hcl.2.2.2.2
          have hto : 0 ≤ x.to_ ∧ x.to_ ≤ 20000 := ⟨by omega, hcl.2.2.2.1.2⟩
          have hub := inR_true.1 h3
          have hi0 : (0 : Int) ≤ i := by omega
          have hi1 : (i : Int) < n := by omega
          have HOff := Lib.hid (leftF_off hq hnm hx)
          have HOk := Lib.hid (leftF_ok hq hnm hx)
          have HI := Lib.hid hi
          clear hq hnm hcl h4
          go_enter Try.func79, Try.ntmps79
          go_wp2_with fail
          refine (l24Ok_any A n c l B _ h hB hn hsm hgd).mono ?_
          rintro e w1 ⟨rfl, b1⟩
          obtain ⟨y, b, off, he, rfl, hb, c0, c1, c2, c3, c4⟩ := cl_at (h.on hB b1) hin
          obtain rfl : x = y := by rw [hx] at he; injection he
          have HR := Lib.hid (h.on hB b1)
          have H1 := Lib.hid b1
          clear he hx h b1 hsm hgd hi
          go_wp2_with (first | (go_at_call 168; refine (l24Day_any _ _).mono ?_; rintro e w2 ⟨rfl, rfl⟩) | (go_at_call 159; refine (l00In_any _ _ _ _).mono ?_; rintro e w2 ⟨rfl, rfl⟩) | (go_at_call 99; refine (l24Find_any _ n c l s B _ HR.out hn).mono ?_; rw [HI.out]; rintro e w2 ⟨rfl, rfl⟩))
          refine (l24Active_any x d b _ _ hto c2 c3).mono ?_
          rintro e w2 ⟨rfl, m2, rfl⟩
          have c4' : (w1.drewN m2).cell? ⟨b, off + i * 5 + 4, none⟩ = some (.int .i64 x.quota) := c4
          clear c0 c1 c2 c3 h2 h3
          rcases ha : active x d with _ | _
          · go_wp2
            go_ret2
            rw [HOff.out ha]
            exact ⟨rfl, below_drewN H1.out _⟩
          · go_wp2_with (go_at_call 176; refine (l00Max0_any _ _ ⟨by omega, by omega⟩).mono ?_; rintro e w2 ⟨rfl, rfl⟩)
            go_ret2
            rw [HOk.out ha]
            exact ⟨rfl, below_drewN H1.out _⟩

set_option maxHeartbeats 2000000 in
theorem implLeftOfQuota_any (A : Option Addr) (n c : Nat) (l : List Cl) (s : ByteArray) (d u : Int) (B : Nat) (w : World) (h : Reads w B 5 A n (cls l)) (hB : B ≤ w.heap.size) (hn : n ≤ 1048576) (hsm : ∀ x ∈ l, x.small) (hgd : ∀ x ∈ l, x.good) (hs : s.size ≤ 1048576) (hd : I64 d) (hu : I64 u) :
    Calls Try.prog 78 #[.slice A n c, .string s, .int .i64 d, .int .i64 u] w fun e w' => e = .returned (.tuple #[.int .i64 (leftF l s d u).1, .int .i64 (leftF l s d u).2]) ∧ Below w.heap.size w w' := by
  have hl := Lib.hid (cls_len h)
  have hcode : ∀ q, (inR d 0 20000 && inR u 0 100000) = q → (Calls Try.prog 173 #[.slice A n c, .string s, .bool q] w fun e w' => e = .returned (.tuple #[.int .i64 (namedF l s q).1, .int .i64 (namedF l s q).2]) ∧ Below w.heap.size w w') := fun q _ => clientCode_any A n c l s q B w h hB hn hsm hgd
  by_cases hz : (namedF l s (inR d 0 20000 && inR u 0 100000)).2 = 0
  · have hq : (inR d 0 20000 && inR u 0 100000) = true := by
      rcases hqq : (inR d 0 20000 && inR u 0 100000) with _ | _
      · rw [hqq] at hz
        rcases h1 : okCls l with _ | _
        · rw [namedF_bad h1] at hz; cases hz
        · rw [namedF_else h1] at hz; cases hz
      · rfl
    rw [hq] at hz
    obtain ⟨hok, i, x, hnm, hx⟩ := named_cases hz
    have h2 : inR d 0 20000 = true := by simp only [Bool.and_eq_true] at hq; exact hq.1
    have h3 : inR u 0 100000 = true := by simp only [Bool.and_eq_true] at hq; exact hq.2
    have hin : i < n := by have := (List.getElem?_eq_some_iff.1 hx).1; have := hl.out; omega
    have hqt := (okCls_mem hok x (List.mem_of_getElem? hx)).2.2.2.2
    have hub := inR_true.1 h3
    have hi0 : (0 : Int) ≤ i := by omega
    have hi1 : (i : Int) < n := by omega
    have HOff := Lib.hid (leftF_off hq hnm hx)
    have HOk := Lib.hid (leftF_ok hq hnm hx)
    have HC := hcode true hq
    rw [hnm] at HC
    have HCode := Lib.hid HC
    clear hcode HC hq hz hnm hsm hgd
    go_enter Try.func78, Try.ntmps78
    go_wp2_with (first | (go_at_call 166; refine (isContractDay_any _ _).mono ?_; rintro e w2 ⟨rfl, rfl⟩) | (go_at_call 157; refine (within_any _ _ _ _).mono ?_; rintro e w2 ⟨rfl, rfl⟩))
    refine HCode.out.mono ?_
    rintro e w1 ⟨rfl, b1⟩
    obtain ⟨y, b, off, he, rfl, hb, c0, c1, c2, c3, c4⟩ := cl_at (h.on hB b1) hin
    obtain rfl : x = y := by rw [hx] at he; injection he
    have H1 := Lib.hid b1
    clear he hx h b1 h2 h3
    go_wp2_with fail
    refine (active_any x d _).mono ?_
    rintro e w2 ⟨rfl, b2⟩
    have c4' := cell_on b2 c4
    have H2 := Lib.hid (bnext H1.out b2 (Nat.le_refl _))
    clear c0 c1 c2 c3 c4 b2
    rcases ha : active x d with _ | _
    · go_wp2
      go_ret2
      rw [HOff.out ha]
      exact ⟨rfl, H2.out⟩
    · by_cases hneg : x.quota - u < 0
      · have hp0 : pos0 (x.quota - u) = 0 := by unfold pos0; split <;> omega
        have HK := Lib.hid (HOk.out ha)
        have HP := Lib.hid hp0
        clear hp0
        go_wp2
        go_ret2
        rw [HK.out, HP.out]
        exact ⟨rfl, H2.out⟩
      · have hp0 : pos0 (x.quota - u) = x.quota - u := by unfold pos0; split <;> omega
        have HK := Lib.hid (HOk.out ha)
        have HP := Lib.hid hp0
        have hneg1 : decide (x.quota - u < 0) = false := decide_eq_false hneg
        clear hp0
        go_wp2
        go_ret2
        rw [HK.out, HP.out]
        exact ⟨rfl, H2.out⟩
  · have HO := Lib.hid (leftF_bad rfl hz)
    have hz' : ((namedF l s (inR d 0 20000 && inR u 0 100000)).2 != 0) = true := by simp [hz]
    clear hz
    rcases h2 : inR d 0 20000 with _ | _
    · have HC := hcode false (by rw [h2]; rfl)
      have HCode := Lib.hid HC
      rw [h2, Bool.false_and] at hz' HO
      clear hcode HC hsm hgd
      go_enter Try.func78, Try.ntmps78
      go_wp2_with (first | (go_at_call 166; refine (isContractDay_any _ _).mono ?_; rintro e w2 ⟨rfl, rfl⟩) | (go_at_call 157; refine (within_any _ _ _ _).mono ?_; rintro e w2 ⟨rfl, rfl⟩))
      refine HCode.out.mono ?_
      rintro e w1 ⟨rfl, b1⟩
      go_wp2
      go_ret2
      rw [HO.out]
      exact ⟨rfl, b1⟩
    · rw [h2, Bool.true_and] at hz' HO
      rcases h3 : inR u 0 100000 with _ | _
      · have HC := hcode false (by rw [h2, h3]; rfl)
        have HCode := Lib.hid HC
        rw [h3] at hz' HO
        clear hcode HC hsm hgd
        go_enter Try.func78, Try.ntmps78
        go_wp2_with (first | (go_at_call 166; refine (isContractDay_any _ _).mono ?_; rintro e w2 ⟨rfl, rfl⟩) | (go_at_call 157; refine (within_any _ _ _ _).mono ?_; rintro e w2 ⟨rfl, rfl⟩))
        refine HCode.out.mono ?_
        rintro e w1 ⟨rfl, b1⟩
        go_wp2
        go_ret2
        rw [HO.out]
        exact ⟨rfl, b1⟩
      · have HC := hcode true (by rw [h2, h3]; rfl)
        have HCode := Lib.hid HC
        rw [h3] at hz' HO
        clear hcode HC hsm hgd
        go_enter Try.func78, Try.ntmps78
        go_wp2_with (first | (go_at_call 166; refine (isContractDay_any _ _).mono ?_; rintro e w2 ⟨rfl, rfl⟩) | (go_at_call 157; refine (within_any _ _ _ _).mono ?_; rintro e w2 ⟨rfl, rfl⟩))
        refine HCode.out.mono ?_
        rintro e w1 ⟨rfl, b1⟩
        go_wp2
        go_ret2
        rw [HO.out]
        exact ⟨rfl, b1⟩
end Go.Proofs.Ytnlghcpidlpfkaa
