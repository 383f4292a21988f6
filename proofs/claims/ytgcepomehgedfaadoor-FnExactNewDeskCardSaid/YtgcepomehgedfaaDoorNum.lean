/- Numbers read from texts, as the program does it. -/
import Derived.Test.YtgcepomehgedfaaDoorTab
import Derived.Test.YtgcepomehgedfaaDoorName
import Derived.Lib.ParseIntBTie
import Derived.Lib.AtoiErrMem
set_option linter.unusedVariables false
set_option linter.unusedSimpArgs false
namespace Go.Proofs.YtgcepomehgedfaaDoor
open Go.RowKit Go.Lib

def SynP (w : World) : Prop := ∃ (tp : TypeId) (p : Value), w.var? Tryd.prog "strconv.ErrSyntax" = some #[.iface tp p]
theorem var_up {w w' : World} {n : String} {cs : Array Value} (h : w.var? Tryd.prog n = some cs) (hb : Below w.heap.size w w') : w'.var? Tryd.prog n = some cs := by
  unfold World.var? at h ⊢
  cases hg : Tryd.prog.globalNamed n with
  | none => rw [hg] at h; cases h
  | some g =>
    rw [hg] at h
    simp only [Option.bind_some] at h ⊢
    have hlt : g < w.heap.size := by
      rcases Nat.lt_or_ge g w.heap.size with h' | h'
      · exact h'
      · rw [Array.getElem?_eq_none h'] at h; cases h
    rw [hb.block g hlt]
    exact h
theorem synUp {w w' : World} (h : SynP w) (hb : Below w.heap.size w w') : SynP w' := by
  obtain ⟨tp, p, h⟩ := h
  exact ⟨tp, p, var_up h hb⟩
theorem bare_trim (l : List UInt8) : Lib.trimPrefix l [45] = bare l := by
  cases l with
  | nil => rfl
  | cons c r =>
    by_cases h : c = 45
    · subst h
      simp [Lib.trimPrefix, Lib.hasPrefix, bare, List.isPrefixOf]
    · have h' : ¬ (45 = c) := fun e => h e.symm
      simp [Lib.trimPrefix, Lib.hasPrefix, bare, List.isPrefixOf, h, h']
theorem parse_norange {s : List UInt8} (hl : (bare s).length ≤ 18) : parseIntB 64 s ≠ .range := by
  intro h
  have key : ∀ l : List UInt8, l.length ≤ 18 → parseUintB 64 l ≠ .range ∧ ∀ u, parseUintB 64 l = .ok u → u < 1000000000000000000 := by
    intro l h18
    unfold parseUintB
    by_cases h0 : l = []
    · rw [if_pos h0]; exact ⟨by simp, fun u hu => by simp at hu⟩
    · rw [if_neg h0, show (2 ^ 64 - 1 : Nat) = 18446744073709551615 from rfl]
      rcases hd : l.all isDig with _ | _
      · rw [parseM_bad l 0 0 (by decide) (by omega) hd]
        exact ⟨by simp, fun u hu => by simp at hu⟩
      · rw [parseM_dig l 0 0 (by decide) (by omega) hd]
        refine ⟨by simp, fun u hu => ?_⟩
        injection hu with hu
        have := valD_lt hd h18
        show u < _
        have e : valF 0 l = valD l := rfl
        omega
  cases s with
  | nil => simp [parseIntB] at h
  | cons c r =>
    by_cases hp : c.toNat = 43
    · have hc : c = 43 := by rw [← UInt8.toNat_inj]; exact hp
      subst hc
      have hl' : r.length ≤ 18 := by simp [bare] at hl; omega
      obtain ⟨k1, k2⟩ := key r hl'
      unfold parseIntB at h
      simp only [hp, true_or, if_true] at h
      rcases hu : parseUintB 64 r with u | _ | _
      · rw [hu] at h
        have := k2 u hu
        simp only at h
        rw [if_neg (by show ¬ (_ ∧ 2 ^ 63 ≤ u); omega), if_neg (by simp)] at h
        cases h
      · rw [hu] at h; cases h
      · exact k1 hu
    · by_cases hm : c.toNat = 45
      · have hc : c = 45 := by rw [← UInt8.toNat_inj]; exact hm
        subst hc
        have hl' : r.length ≤ 18 := by simpa [bare] using hl
        obtain ⟨k1, k2⟩ := key r hl'
        unfold parseIntB at h
        simp only [hm, or_true, if_true] at h
        rcases hu : parseUintB 64 r with u | _ | _
        · rw [hu] at h
          have := k2 u hu
          simp only at h
          rw [if_neg (by simp), if_neg (by show ¬ (_ ∧ 2 ^ 63 < u); omega)] at h
          cases h
        · rw [hu] at h; cases h
        · exact k1 hu
      · have hc : c ≠ 45 := fun hh => hm (by rw [hh]; rfl)
        have hl' : (c :: r).length ≤ 18 := by simpa [bare, hc] using hl
        obtain ⟨k1, k2⟩ := key (c :: r) hl'
        unfold parseIntB at h
        simp only [hp, hm, or_self, if_false] at h
        rcases hu : parseUintB 64 (c :: r) with u | _ | _
        · rw [hu] at h
          have := k2 u hu
          simp only at h
          rw [if_neg (by show ¬ (_ ∧ 2 ^ 63 ≤ u); omega), if_neg (by simp)] at h
          cases h
        · rw [hu] at h; cases h
        · exact k1 hu
theorem trim_any (s : ByteArray) (w : World) :
    Calls Tryd.prog 30 #[.string s, .string ⟨#[45]⟩] w fun e w' => e = .returned (.string (asBytes (bare s.data.toList))) ∧ w = w' := by
  refine (Tryd.strings_TrimPrefix s ⟨#[45]⟩ w).mono ?_
  rintro e w' ⟨rfl, rfl⟩
  refine ⟨?_, rfl⟩
  rw [show (⟨#[45]⟩ : ByteArray).data.toList = [45] from rfl, bare_trim]
  rfl

set_option maxHeartbeats 4000000 in
set_option maxRecDepth 100000 in
theorem readDecimal_any (s : ByteArray) (w : World) (hs : s.size ≤ 281474976710656) (ht : TabP w) (hv : SynP w) :
    Calls Tryd.prog 21 #[.string s] w fun e w' => e = .returned (.tuple #[.int .i64 (readN s.data.toList).1, .bool (readN s.data.toList).2]) ∧ Below w.heap.size w w' := by
  have HT := Lib.hid ht
  have HV := Lib.hid hv
  have hsl := Lib.hid (show s.data.toList.length = s.size by rw [Array.length_toList]; rfl)
  clear ht hv
  by_cases h19 : 19 < s.size
  · have hg : decide ((19 : Int) < (s.size : Int)) = true := decide_eq_true (by omega)
    have HO := Lib.hid (readN_no (isDec_long (s := s.data.toList) (by have := (bare_len s.data.toList).2; have := hsl.out; omega)))
    go_enter Tryd.func21, Tryd.ntmps21
    go_wp2
    go_ret2
    rw [HO.out]
    exact ⟨rfl, Below.refl _ _⟩
  · have hg : decide ((19 : Int) < (s.size : Int)) = false := decide_eq_false (by omega)
    by_cases h18 : 18 < (bare s.data.toList).length
    · have hg2 : decide ((18 : Int) < ((asBytes (bare s.data.toList)).size : Int)) = true := decide_eq_true (by rw [asBytes_size]; omega)
      have HO := Lib.hid (readN_no (isDec_long h18))
      clear h18
      go_enter Tryd.func21, Tryd.ntmps21
      go_wp2_with (first | (go_at_call 30; refine (trim_any _ _).mono ?_; rintro e w2 ⟨rfl, rfl⟩) | fail "t")
      go_ret2
      rw [HO.out]
      exact ⟨rfl, Below.refl _ _⟩
    · have hg2 : decide ((18 : Int) < ((asBytes (bare s.data.toList)).size : Int)) = false := decide_eq_false (by rw [asBytes_size]; omega)
      have hb18 : (bare s.data.toList).length ≤ 18 := by omega
      rcases hp : Lib.parseIntB 64 s.data.toList with v | _ | _
      · have hpo := Lib.hid (parse_ok hb18 hp)
        have HP := Lib.hid hp
        have hvb : -9223372036854775808 ≤ v ∧ v ≤ 9223372036854775807 := by
          have h9 := Lib.parseIntB_bounds hp
          have e9 : ((2 ^ (64 - 1) : Nat) : Int) = 9223372036854775808 := by decide
          rw [e9] at h9
          omega
        rcases hq : ((asBytes (itoa v)).toList == s.toList) with _ | _
        · have HO := Lib.hid (readN_no (hpo.out.2 (fun e => by rw [Go.ByteArray.toList_eq, Go.ByteArray.toList_eq, data_asBytes, e] at hq; simp at hq)))
          have hq' : ((asBytes (itoa v)).toList != s.toList) = true := by simp only [bne, hq]; rfl
          clear hp h18 hb18
          go_enter Tryd.func21, Tryd.ntmps21
          go_wp2_with (first | (go_at_call 30; refine (trim_any _ _).mono ?_; rintro e w2 ⟨rfl, rfl⟩) | fail "t")
          refine (Tryd.strconv_ParseInt_10_at64_ok s (by omega) v HP.out _).mono ?_
          rintro e w2 ⟨rfl, hw2⟩
          have b2 : Below w.heap.size w w2 := by
            rcases hw2 with rfl | ⟨t, rfl⟩
            · exact Below.refl _ _
            · exact Lib.bytesWorld_below _ _ _
          have H2 := Lib.hid b2
          clear hw2 b2
          go_wp2_with fail
          refine (decimal_any v _ hvb.1 hvb.2 (tabUp HT.out H2.out)).mono ?_
          rintro e w3 ⟨rfl, b3⟩
          have H3 := Lib.hid (bnext H2.out b3 (Nat.le_refl _))
          clear b3
          go_wp2
          go_ret2
          rw [HO.out]
          exact ⟨rfl, H3.out⟩
        · have he : itoa v = s.data.toList := by
            rw [Go.ByteArray.toList_eq, Go.ByteArray.toList_eq, data_asBytes] at hq
            simpa using hq
          have HO := Lib.hid (show readN s.data.toList = (v, true) by
            obtain ⟨h1, h2⟩ := hpo.out.1 he
            rw [readN_yes h1, h2])
          have hq' : ((asBytes (itoa v)).toList != s.toList) = false := by simp only [bne, hq]; rfl
          clear hp h18 hb18 he
          go_enter Tryd.func21, Tryd.ntmps21
          go_wp2_with (first | (go_at_call 30; refine (trim_any _ _).mono ?_; rintro e w2 ⟨rfl, rfl⟩) | fail "t")
          refine (Tryd.strconv_ParseInt_10_at64_ok s (by omega) v HP.out _).mono ?_
          rintro e w2 ⟨rfl, hw2⟩
          have b2 : Below w.heap.size w w2 := by
            rcases hw2 with rfl | ⟨t, rfl⟩
            · exact Below.refl _ _
            · exact Lib.bytesWorld_below _ _ _
          have H2 := Lib.hid b2
          clear hw2 b2
          go_wp2_with fail
          refine (decimal_any v _ hvb.1 hvb.2 (tabUp HT.out H2.out)).mono ?_
          rintro e w3 ⟨rfl, b3⟩
          have H3 := Lib.hid (bnext H2.out b3 (Nat.le_refl _))
          clear b3
          go_wp2
          go_ret2
          rw [HO.out]
          exact ⟨rfl, H3.out⟩
      · have HO := Lib.hid (readN_no (parse_syntax hb18 hp))
        have HP := Lib.hid hp
        obtain ⟨tp, pp, hvar⟩ := HV.out
        have HVa := Lib.hid hvar
        clear hp h18 hb18 hvar
        go_enter Tryd.func21, Tryd.ntmps21
        go_wp2_with (first | (go_at_call 30; refine (trim_any _ _).mono ?_; rintro e w2 ⟨rfl, rfl⟩) | fail "t")
        refine (Tryd.strconv_ParseInt_10_at64_syntax_var s hs HP.out tp pp _ HVa.out).mono ?_
        rintro e w2 ⟨N, rfl, hN, hblk, b2⟩
        have H2 := Lib.hid b2
        clear b2 hblk hN
        go_wp2
        go_ret2
        rw [HO.out]
        exact ⟨rfl, H2.out⟩
      · exact absurd hp (fun h => by
          have := parse_norange hb18
          exact this h)
end Go.Proofs.YtgcepomehgedfaaDoor
