/- Numbers read from texts, as the reference says it. -/
import Derived.Test.YtjalgpioklcbfaaGreatDoorMgConsoleAC
import Derived.Test.YtjalgpioklcbfaaGreatDoorMgConsoleAA
import Derived.WalkSpells
set_option linter.unusedVariables false
set_option linter.unusedSimpArgs false
namespace Go.Proofs.YtjalgpioklcbfaaGreatDoor
open Go.RowKit Go.Lib

theorem dig_inR (c : UInt8) : isDig c = inR (c.toNat : Int) 48 57 := by
  rw [Bool.eq_iff_iff, isDig_iff, inR_true]
  omega
theorem valD_step (s : ByteArray) (k : Nat) (h : k < s.size) : valD (s.data.toList.take (k + 1)) = valD (s.data.toList.take k) * 10 + (s[k].toNat - 48) ∧ (s.data.toList.take (k + 1)).all isDig = ((s.data.toList.take k).all isDig && isDig s[k]) := by
  have e : s.data.toList.take (k + 1) = s.data.toList.take k ++ [s[k]] := by
    rw [List.take_succ_eq_append_getElem (by simpa using h)]; rfl
  rw [e, valD_snoc]
  exact ⟨rfl, by simp⟩

set_option maxHeartbeats 4000000 in
set_option maxRecDepth 100000 in
theorem l01Number_any (s : ByteArray) (w : World) (hs : s.size ≤ 281474976710656) :
    Calls Tryz.prog 170 #[.string s] w fun e w' => e = .returned (.tuple #[.int .i64 (readN s.data.toList).1, .bool (readN s.data.toList).2]) ∧ Below w.heap.size w w' := by
  rcases hneg : negS s.data.toList with _ | _
  · have hbare := Lib.hid (show s.data.toList = bare s.data.toList by
      cases hl : s.data.toList with
      | nil => rfl
      | cons c r => rw [hl] at hneg; simp [negS] at hneg; simp [bare, hneg])
    have hsl : s.data.toList.length = s.size := by rw [Array.length_toList]; rfl
    by_cases h1 : s.size < 1
    · have hnil : s.data.toList = [] := List.eq_nil_of_length_eq_zero (by omega)
      have HO := Lib.hid (readN_no (isDec_empty (s := s.data.toList) (by rw [hnil]; rfl)))
      have he : s.toList = [] := by rw [Go.ByteArray.toList_eq]; exact hnil
      have h1i : (s.size : Int) < 1 := by omega
      clear hneg hnil
      go_enter Tryz.func170, Tryz.ntmps170
      go_wp2
      go_ret2
      rw [HO.out]
      exact ⟨rfl, Below.refl _ _⟩
    · have h1i : decide ((s.size : Int) < 1) = false := decide_eq_false (by omega)
      have hpos : 0 < s.size := by omega
      have hpi : (0 : Int) < (s.size : Int) := by omega
      have hne : s.toList.isEmpty = false := by
        rw [Go.ByteArray.toList_eq]
        cases hl : s.data.toList with
        | nil => rw [hl] at hsl; simp at hsl; omega
        | cons c r => rfl
      have hne2 : (!s.toList.isEmpty) = true := by rw [hne]; rfl
      have h45 : ((s[0].toNat : Int) == 45) = false := by
        have hb := byte_at s 0 hpos
        cases hl : s.data.toList with
        | nil => rw [hl] at hsl; simp at hsl; omega
        | cons c r =>
          rw [hl] at hneg hb
          simp [negS] at hneg
          simp at hb
          rw [← hb, beq_eq_false_iff_ne]
          intro e
          exact hneg (by rw [← UInt8.toNat_inj]; show c.toNat = 45; omega)
      by_cases h18 : 18 < s.size
      · have HO := Lib.hid (readN_no (isDec_long (s := s.data.toList) (by rw [← hbare.out]; omega)))
        have h18i : (18 : Int) < (s.size : Int) := by omega
        clear hneg
        go_enter Tryz.func170, Tryz.ntmps170
        go_wp2
        go_ret2
        rw [HO.out]
        exact ⟨rfl, Below.refl _ _⟩
      · have h18i : decide ((18 : Int) < (s.size : Int)) = false := decide_eq_false (by omega)
        have htl := Lib.hid (show s.data.toList.length ≤ 18 by omega)
        have hlq : decide ((s.size : Int) < (s.size : Int)) = false := decide_eq_false (by omega)
        have HN := Lib.hid hneg
        clear hneg hsl
        go_enter Tryz.func170, Tryz.ntmps170
        go_wp2
        go_loop [5, 6] (fun n i => ∃ k : Nat, k ≤ s.size ∧ i = .int .i64 k ∧ n = .int .i64 (valD (s.data.toList.take k) : Int) ∧ (s.data.toList.take k).all isDig = true) (fun _ i => s.size - (RowKit.intOf i).toNat)
        case atStart => exact ⟨0, Nat.zero_le _, rfl, rfl, rfl⟩
        case round =>
          obtain ⟨k, hk, rfl, rfl, hall⟩ := hrel
          have hvb := valD_lt hall (by rw [List.length_take]; have := htl.out; omega)
          have HA := Lib.hid hall
          clear hall
          by_cases hlt : k < s.size
          · obtain ⟨st1, st2⟩ := valD_step s k hlt
            rcases hd : isDig s[k] with _ | _
            · have HO := Lib.hid (readN_no (isDec_bad (s := s.data.toList) (by
                rw [← hbare.out]
                exact all_bad (byte_at s k hlt) hd)))
              have hin : inR (s[k].toNat : Int) 48 57 = false := by rw [← dig_inR]; exact hd
              clear st1 st2 hd
              go_wp2_with fail
              refine (l01Digit_any _ _).mono ?_
              rintro e w2 ⟨rfl, rfl⟩
              go_wp2
              go_ret2
              rw [HO.out]
              exact ⟨rfl, Below.refl _ _⟩
            · have hdr := isDig_iff.1 hd
              have hin : inR (s[k].toNat : Int) 48 57 = true := by rw [← dig_inR]; exact hd
              have HS1 := Lib.hid st1
              have HS2 := Lib.hid (show (s.data.toList.take (k + 1)).all isDig = true by rw [st2, HA.out, hd]; rfl)
              obtain ⟨v, hv⟩ : ∃ v, valD (s.data.toList.take k) = v := ⟨_, rfl⟩
              obtain ⟨cn, hcn⟩ : ∃ cn, s[k].toNat = cn := ⟨_, rfl⟩
              rw [hv] at hvb HS1 ⊢
              rw [hcn] at hdr hin HS1
              have h48 : (48 : Int) ≤ (cn : Int) := by omega
              have h57 : (cn : Int) ≤ 57 := by omega
              have h0v : (0 : Int) ≤ (v : Int) := by omega
              have hvi : (v : Int) < 1000000000000000000 := by omega
              have hnx := valD_lt HS2.out (by rw [List.length_take]; have := htl.out; omega)
              rw [HS1.out] at hnx
              have hv17 : (v : Int) < 100000000000000000 := by omega
              have HCN := Lib.hid hcn
              clear st1 st2 hd hv
              go_wp2_with fail
              refine (l01Digit_any _ _).mono ?_
              rintro e w2 ⟨rfl, rfl⟩
              go_wp2
              refine ⟨⟨k + 1, by omega, by simp, ?_, HS2.out⟩, by simp [RowKit.intOf]; omega⟩
              rw [HS1.out]
              refine congrArg (Value.int .i64) ?_
              omega
          · obtain rfl : k = s.size := by omega
            have htk : s.data.toList.take s.size = s.data.toList := List.take_of_length_le (by rw [Array.length_toList]; exact Nat.le_refl _)
            have HA2 := Lib.hid (show (bare s.data.toList).all isDig = true by rw [← hbare.out, ← htk]; exact HA.out)
            have HV := Lib.hid (show valD (s.data.toList.take s.size) = valD (bare s.data.toList) by rw [htk]; exact congrArg valD hbare.out)
            rw [HV.out] at hvb ⊢
            obtain ⟨v, hv⟩ : ∃ v, valD (bare s.data.toList) = v := ⟨_, rfl⟩
            have HN2 := Lib.hid (show numS s.data.toList = (valD (bare s.data.toList) : Int) by unfold numS; rw [HN.out]; simp)
            rw [hv] at hvb HN2 ⊢
            have h0v : (0 : Int) ≤ (v : Int) := by omega
            have hvi : (v : Int) < 1000000000000000000 := by omega
            have hkk : ¬ ((s.size : Int) < (s.size : Int)) := by omega
            have HD := Lib.hid (show isDec s.data.toList = true ↔ itoa (v : Int) = s.data.toList by
              rw [isDec_iff, HN2.out]
              refine ⟨fun h => h.2.2.2, fun h => ⟨fun e => ?_, by rw [← hbare.out]; exact htl.out, HA2.out, h⟩⟩
              have := hbare.out
              rw [e] at this
              have h3 : s.data.toList.length = s.size := by rw [Array.length_toList]; rfl
              rw [this] at h3
              simp at h3
              omega)
            clear hv htk
            rcases hq : ((asBytes (itoa (v : Int))).toList == s.toList) with _ | _
            · have HO := Lib.hid (readN_no (s := s.data.toList) (by
                rw [← Bool.not_eq_true]
                intro h
                have h2 := HD.out.1 h
                rw [Go.ByteArray.toList_eq, Go.ByteArray.toList_eq, data_asBytes, h2] at hq
                simp at hq))
              have hq' : ((asBytes (itoa (v : Int))).toList != s.toList) = true := by simp only [bne, hq]; rfl
              go_wp2_with fail
              refine (l01Dec_any (v : Int) _ (by omega) (by omega)).mono ?_
              rintro e w2 ⟨rfl, b2⟩
              have B2 := Lib.hid b2
              clear b2
              go_wp2
              go_ret2
              rw [HO.out]
              exact ⟨rfl, B2.out⟩
            · have HO := Lib.hid (show readN s.data.toList = ((v : Int), true) by
                have h2 : itoa (v : Int) = s.data.toList := by
                  rw [Go.ByteArray.toList_eq, Go.ByteArray.toList_eq, data_asBytes] at hq
                  simpa using hq
                rw [readN_yes (HD.out.2 h2), HN2.out])
              have hq' : ((asBytes (itoa (v : Int))).toList != s.toList) = false := by simp only [bne, hq]; rfl
              go_wp2_with fail
              refine (l01Dec_any (v : Int) _ (by omega) (by omega)).mono ?_
              rintro e w2 ⟨rfl, b2⟩
              have B2 := Lib.hid b2
              clear b2
              go_wp2
              go_ret2
              rw [HO.out]
              exact ⟨rfl, B2.out⟩
  · have hsl : s.data.toList.length = s.size := by rw [Array.length_toList]; rfl
    obtain ⟨r, hr⟩ : ∃ r, s.data.toList = 45 :: r := by
      cases hl : s.data.toList with
      | nil => rw [hl] at hneg; simp [negS] at hneg
      | cons c r => rw [hl] at hneg; simp [negS] at hneg; exact ⟨r, by rw [hneg]⟩
    have hpos : 0 < s.size := by rw [← hsl, hr]; simp
    obtain ⟨t, ht⟩ : ∃ t, s.extract 1 s.size = t := ⟨_, rfl⟩
    have htd : t.data.toList = bare s.data.toList := by
      rw [← ht, extract_to_end, hr]
      simp [bare]
    have hts : t.size + 1 = s.size := by
      have e1 : t.data.toList.length = t.size := by rw [Array.length_toList]; rfl
      have e2 : t.data.toList = r := by rw [htd, hr]; simp [bare]
      rw [← e1, e2, ← hsl, hr]
      simp
    have hbare := Lib.hid htd
    have HT := Lib.hid ht
    have h45 : ((s[0].toNat : Int) == 45) = true := by
      have hb := byte_at s 0 hpos
      rw [hr] at hb
      simp at hb
      rw [← hb]
      rfl
    have hne2 : (!s.toList.isEmpty) = true := by
      rw [Go.ByteArray.toList_eq, hr]
      rfl
    have hpi : (0 : Int) < (s.size : Int) := by omega
    have hsli : (1 : Int) ≤ (s.size : Int) := by omega
    have HN := Lib.hid hneg
    clear ht htd hneg hr
    by_cases h1 : t.size < 1
    · have hnil : t.data.toList = [] := List.eq_nil_of_length_eq_zero (by rw [Array.length_toList]; exact Nat.lt_one_iff.1 h1)
      have HO := Lib.hid (readN_no (isDec_empty (s := s.data.toList) (by rw [← hbare.out]; exact hnil)))
      have h1i : (t.size : Int) < 1 := by omega
      clear hnil
      go_enter Tryz.func170, Tryz.ntmps170
      go_wp2
      rw [HT.out]
      go_wp2
      go_ret2
      rw [HO.out]
      exact ⟨rfl, Below.refl _ _⟩
    · have h1i : decide ((t.size : Int) < 1) = false := decide_eq_false (by omega)
      have htsz : t.data.toList.length = t.size := by rw [Array.length_toList]; rfl
      by_cases h18 : 18 < t.size
      · have HO := Lib.hid (readN_no (isDec_long (s := s.data.toList) (by rw [← hbare.out]; omega)))
        have h18i : (18 : Int) < (t.size : Int) := by omega
        go_enter Tryz.func170, Tryz.ntmps170
        go_wp2
        rw [HT.out]
        go_wp2
        go_ret2
        rw [HO.out]
        exact ⟨rfl, Below.refl _ _⟩
      · have h18i : decide ((18 : Int) < (t.size : Int)) = false := decide_eq_false (by omega)
        have htl := Lib.hid (show t.data.toList.length ≤ 18 by omega)
        have hlq : (t.size : Int) < (s.size : Int) := by omega
        clear htsz
        go_enter Tryz.func170, Tryz.ntmps170
        go_wp2
        rw [HT.out]
        go_wp2
        go_loop [5, 6] (fun n i => ∃ k : Nat, k ≤ t.size ∧ i = .int .i64 k ∧ n = .int .i64 (valD (t.data.toList.take k) : Int) ∧ (t.data.toList.take k).all isDig = true) (fun _ i => t.size - (RowKit.intOf i).toNat)
        case atStart => exact ⟨0, Nat.zero_le _, rfl, rfl, rfl⟩
        case round =>
          obtain ⟨k, hk, rfl, rfl, hall⟩ := hrel
          have hvb := valD_lt hall (by rw [List.length_take]; have := htl.out; omega)
          have HA := Lib.hid hall
          clear hall
          by_cases hlt : k < t.size
          · obtain ⟨st1, st2⟩ := valD_step t k hlt
            rcases hd : isDig t[k] with _ | _
            · have HO := Lib.hid (readN_no (isDec_bad (s := s.data.toList) (by
                rw [← hbare.out]
                exact all_bad (byte_at t k hlt) hd)))
              have hin : inR (t[k].toNat : Int) 48 57 = false := by rw [← dig_inR]; exact hd
              clear st1 st2 hd
              go_wp2_with fail
              refine (l01Digit_any _ _).mono ?_
              rintro e w2 ⟨rfl, rfl⟩
              go_wp2
              go_ret2
              rw [HO.out]
              exact ⟨rfl, Below.refl _ _⟩
            · have hdr := isDig_iff.1 hd
              have hin : inR (t[k].toNat : Int) 48 57 = true := by rw [← dig_inR]; exact hd
              have HS1 := Lib.hid st1
              have HS2 := Lib.hid (show (t.data.toList.take (k + 1)).all isDig = true by rw [st2, HA.out, hd]; rfl)
              obtain ⟨v, hv⟩ : ∃ v, valD (t.data.toList.take k) = v := ⟨_, rfl⟩
              obtain ⟨cn, hcn⟩ : ∃ cn, t[k].toNat = cn := ⟨_, rfl⟩
              rw [hv] at hvb HS1 ⊢
              rw [hcn] at hdr hin HS1
              have h48 : (48 : Int) ≤ (cn : Int) := by omega
              have h57 : (cn : Int) ≤ 57 := by omega
              have h0v : (0 : Int) ≤ (v : Int) := by omega
              have hvi : (v : Int) < 1000000000000000000 := by omega
              have hnx := valD_lt HS2.out (by rw [List.length_take]; have := htl.out; omega)
              rw [HS1.out] at hnx
              have hv17 : (v : Int) < 100000000000000000 := by omega
              have HCN := Lib.hid hcn
              clear st1 st2 hd hv
              go_wp2_with fail
              refine (l01Digit_any _ _).mono ?_
              rintro e w2 ⟨rfl, rfl⟩
              go_wp2
              refine ⟨⟨k + 1, by omega, by simp, ?_, HS2.out⟩, by simp [RowKit.intOf]; omega⟩
              rw [HS1.out]
              refine congrArg (Value.int .i64) ?_
              omega
          · obtain rfl : k = t.size := by omega
            have htk : t.data.toList.take t.size = t.data.toList := List.take_of_length_le (by rw [Array.length_toList]; exact Nat.le_refl _)
            have HA2 := Lib.hid (show (bare s.data.toList).all isDig = true by rw [← hbare.out, ← htk]; exact HA.out)
            have HV := Lib.hid (show valD (t.data.toList.take t.size) = valD (bare s.data.toList) by rw [htk]; exact congrArg valD hbare.out)
            rw [HV.out] at hvb ⊢
            obtain ⟨v, hv⟩ : ∃ v, valD (bare s.data.toList) = v := ⟨_, rfl⟩
            have HN2 := Lib.hid (show numS s.data.toList = -(valD (bare s.data.toList) : Int) by unfold numS; rw [HN.out]; simp)
            rw [hv] at hvb HN2 ⊢
            have h0v : (0 : Int) ≤ (v : Int) := by omega
            have hvi : (v : Int) < 1000000000000000000 := by omega
            have hkk : ¬ ((t.size : Int) < (t.size : Int)) := by omega
            have HD := Lib.hid (show isDec s.data.toList = true ↔ itoa (-(v : Int)) = s.data.toList by
              rw [isDec_iff, HN2.out]
              refine ⟨fun h => h.2.2.2, fun h => ⟨fun e => ?_, by rw [← hbare.out]; exact htl.out, HA2.out, h⟩⟩
              have := hbare.out
              rw [e] at this
              have h3 : t.data.toList.length = t.size := by rw [Array.length_toList]; rfl
              rw [this] at h3
              simp at h3
              omega)
            clear hv htk
            rcases hq : ((asBytes (itoa (-(v : Int)))).toList == s.toList) with _ | _
            · have HO := Lib.hid (readN_no (s := s.data.toList) (by
                rw [← Bool.not_eq_true]
                intro h
                have h2 := HD.out.1 h
                rw [Go.ByteArray.toList_eq, Go.ByteArray.toList_eq, data_asBytes, h2] at hq
                simp at hq))
              have hq' : ((asBytes (itoa (-(v : Int)))).toList != s.toList) = true := by simp only [bne, hq]; rfl
              go_wp2_with fail
              refine (l01Dec_any (-(v : Int)) _ (by omega) (by omega)).mono ?_
              rintro e w2 ⟨rfl, b2⟩
              have B2 := Lib.hid b2
              clear b2
              go_wp2
              go_ret2
              rw [HO.out]
              exact ⟨rfl, B2.out⟩
            · have HO := Lib.hid (show readN s.data.toList = ((-(v : Int)), true) by
                have h2 : itoa (-(v : Int)) = s.data.toList := by
                  rw [Go.ByteArray.toList_eq, Go.ByteArray.toList_eq, data_asBytes] at hq
                  simpa using hq
                rw [readN_yes (HD.out.2 h2), HN2.out])
              have hq' : ((asBytes (itoa (-(v : Int)))).toList != s.toList) = false := by simp only [bne, hq]; rfl
              go_wp2_with fail
              refine (l01Dec_any (-(v : Int)) _ (by omega) (by omega)).mono ?_
              rintro e w2 ⟨rfl, b2⟩
              have B2 := Lib.hid b2
              clear b2
              go_wp2
              go_ret2
              rw [HO.out]
              exact ⟨rfl, B2.out⟩
end Go.Proofs.YtjalgpioklcbfaaGreatDoor
