/- slices' stable sort at strings: the same things, in order. -/
import Derived.Test.YtnlghcpidlpfkaaStz
set_option linter.unusedVariables false
set_option linter.unusedSimpArgs false
namespace Go.Proofs.Ytnlghcpidlpfkaa
open Go.RowKit Stb

set_option maxHeartbeats 4000000 in
set_option maxRecDepth 100000 in
theorem stable_any (g n c lo hi g2 g3 : Nat) (cf : ByteArray → ByteArray → Int) (R S : ByteArray → ByteArray → Prop) (w0 : World) (hn : n ≤ 100000000) (hc : CmpAt w0 g g2 g3 cf) (hord : Ord3 (fun x y => decide (cf x y < 0)) R S) (f : Nat → ByteArray) (w : World) (h : Sl w lo hi 9 1 (some ⟨g, 0, none⟩) n c (strs (row (f) n))) (ho : Only g (g + 1) w0 w) (hs : Srt S f 0 n) :
    Calls Try.prog 210 #[.slice (some ⟨g, 0, none⟩) n c, .int .i64 (n : Int), .func (.func 146) #[] #[.pointer (some ⟨g2, 0, none⟩), .pointer (some ⟨g3, 0, none⟩)]] w fun e w' => e = .returned (.tuple #[]) ∧ ∃ f' : Nat → ByteArray, Sl w' lo hi 9 1 (some ⟨g, 0, none⟩) n c (strs (row (f') n)) ∧ Turned f f' 0 n n ∧ Srt R f' 0 n ∧ Only g (g + 1) w0 w' := by
  have HC := Lib.hid hc
  have HH := Lib.hid h
  have HO0 := Lib.hid ho
  have HSS := Lib.hid hs
  clear hc h ho hs
  go_enter Try.func210, Try.ntmps210
  go_wp2
  go_loopw [7, 8] (fun p q wr => ∃ (a b : Nat) (f1 : Nat → ByteArray), p = .int .i64 (a : Int) ∧ q = .int .i64 (b : Int) ∧ b = a + 20 ∧ 20 ∣ a ∧ a ≤ n ∧ Sl wr lo hi 9 1 (some ⟨g, 0, none⟩) n c (strs (row (f1) n)) ∧ Ins R S f f1 a n ∧ Only g (g + 1) w0 wr) (fun p q _ => n + 20 - (intOf q).toNat)
  case atStart => exact ⟨0, 20, f, rfl, rfl, rfl, ⟨0, rfl⟩, Nat.zero_le _, HH.out, Ins.start HSS.out, HO0.out⟩
  case round =>
    obtain ⟨a, b, f1, rfl, rfl, hb, hda, han, hsl, hins, ho⟩ := hrel
    have HSL := Lib.hid hsl
    have HO := Lib.hid ho
    have HIN := Lib.hid hins
    have HDA := Lib.hid hda
    have HBA := Lib.hid hb
    clear hsl ho hins hda hb HH HO0
    by_cases hlt : b ≤ n
    · as_aux_lemma =>
        obtain ⟨b', hb'⟩ : ∃ x : Nat, (b : Int) + 20 = (x : Int) := ⟨b + 20, by omega⟩
        have hb'w : IntKind.i64.wrap (b' : Int) = b' := by rw [IntKind.wrap_i64]; omega
        go_wp2_with fail
        refine (insertion_any g n c lo hi a b g2 g3 f1 cf R S w0 _ HSL.out hlt han (by omega) HO.out HC.out hord (HIN.out.pre HSS.out hlt)).mono ?_
        rintro e w1 ⟨rfl, f2, sl2, t2, r2, o2⟩
        have HR := Lib.hid (show Sl w1 lo hi 9 1 (some ⟨g, 0, none⟩) n c (strs (row (f2) n)) ∧ Ins R S f f2 b n ∧ Only g (g + 1) w0 w1 by
          have hb := HBA.out
          subst hb
          exact ⟨sl2, HIN.out.step HDA.out hlt t2 r2, o2⟩)
        clear sl2 t2 r2 o2
        go_wp2
        go_roundw
        case rel => exact ⟨b, b', f2, rfl, rfl, by omega, by rw [HBA.out]; exact (Nat.dvd_add_right HDA.out).2 (Nat.dvd_refl 20), hlt, HR.out.1, HR.out.2.1, HR.out.2.2⟩
        case measure => simp [intOf]; omega
    · have hlt' : decide ((b : Int) ≤ (n : Int)) = false := decide_eq_false (by omega)
      have hlt2 : decide (b ≤ n) = false := decide_eq_false hlt
      go_wp2_with fail
      refine (insertion_any g n c lo hi a n g2 g3 f1 cf R S w0 _ HSL.out (Nat.le_refl _) han (by omega) HO.out HC.out hord (HIN.out.pre HSS.out (Nat.le_refl _))).mono ?_
      rintro e w1 ⟨rfl, f2, sl2, t2, r2, o2⟩
      have HR := Lib.hid (show Sl w1 lo hi 9 1 (some ⟨g, 0, none⟩) n c (strs (row (f2) n)) ∧ (Blks R S f2 20 n ∧ Turned f f2 0 n n) ∧ Only g (g + 1) w0 w1 from ⟨sl2, HIN.out.last HDA.out (by have := HBA.out; omega) han t2 r2, o2⟩)
      clear sl2 t2 r2 o2 HSL HO HIN HDA HBA hlt hlt' hlt2
      as_aux_lemma =>
        go_wp2
        rename World => wo
        go_loopw [6] (fun p wr => ∃ (B : Nat) (f2 : Nat → ByteArray), p = .int .i64 (B : Int) ∧ 0 < B ∧ Sl wr lo hi 9 1 (some ⟨g, 0, none⟩) n c (strs (row (f2) n)) ∧ Blks R S f2 B n ∧ Turned f f2 0 n n ∧ Only g (g + 1) w0 wr) (fun p _ => n - (intOf p).toNat)
        case atStart => exact ⟨20, f2, rfl, by omega, HR.out.1, HR.out.2.1.1, HR.out.2.1.2, HR.out.2.2⟩
        case round =>
          clear HR f2
          obtain ⟨B, f2, rfl, hB0, hsl, hbl, htu, ho⟩ := hrel
          have HSL := Lib.hid hsl
          have HO := Lib.hid ho
          have HBL := Lib.hid hbl
          have HTU := Lib.hid htu
          clear hsl ho hbl htu
          by_cases hlt : B < n
          · skip
            obtain ⟨C, hC⟩ : ∃ x : Nat, 2 * (B : Int) = (x : Int) := ⟨2 * B, by omega⟩
            have hCw : IntKind.i64.wrap (C : Int) = C := by rw [IntKind.wrap_i64]; omega
            have hC2 : (B : Int) * 2 = (C : Int) := by omega
            have HCB := Lib.hid (show C = 2 * B by omega)
            go_wp2
            rename World => wo2
            go_loopw [7, 8] (fun p q wr => ∃ (a b : Nat) (f3 : Nat → ByteArray), p = .int .i64 (a : Int) ∧ q = .int .i64 (b : Int) ∧ b = a + C ∧ 2 * B ∣ a ∧ a ≤ n ∧ Sl wr lo hi 9 1 (some ⟨g, 0, none⟩) n c (strs (row (f3) n)) ∧ Mrg R S f f3 B a n ∧ Only g (g + 1) w0 wr) (fun p q _ => n + C - (intOf q).toNat)
            case atStart => exact ⟨0, C, f2, rfl, rfl, by omega, ⟨0, rfl⟩, Nat.zero_le _, HSL.out, Mrg.start HBL.out HTU.out, HO.out⟩
            case round =>
              clear HSL HO HBL HTU f2
              obtain ⟨a, b, f3, rfl, rfl, hb, hda, han, hsl, hmr, ho⟩ := hrel
              have HSL := Lib.hid hsl
              have HO := Lib.hid ho
              have HMR := Lib.hid hmr
              have HDA := Lib.hid hda
              have HBA := Lib.hid hb
              have hab : a + C = b := hb.symm
              clear hsl ho hmr hda hb
              obtain ⟨m, hm⟩ : ∃ x : Nat, (a : Int) + (B : Int) = (x : Int) := ⟨a + B, by omega⟩
              have hmw : IntKind.i64.wrap (m : Int) = m := by rw [IntKind.wrap_i64]; omega
              have HM := Lib.hid (show m = a + B by omega)
              by_cases hbn : b ≤ n
              · as_aux_lemma =>
                  obtain ⟨b', hb'⟩ : ∃ x : Nat, (b : Int) + (C : Int) = (x : Int) := ⟨b + C, by omega⟩
                  have hb'w : IntKind.i64.wrap (b' : Int) = b' := by rw [IntKind.wrap_i64]; omega
                  have HB2 := Lib.hid (show b' = b + C by omega)
                  have hpre := HMR.out.pre (b := b) HDA.out (by have := HCB.out; omega) (by have := HCB.out; omega) hbn
                  rw [← HM.out] at hpre
                  have HP := Lib.hid hpre
                  have hma : a < m := by omega
                  have hmb : m < b := by have := HCB.out; omega
                  clear hpre hab
                  go_wp2_with fail
                  refine ((symMerge_any g n c lo hi g2 g3 cf R S w0 (by omega) HC.out hord (b - a) a m b f3 _ (Nat.le_refl _) hma hmb hbn HSL.out HO.out HP.out.1 HP.out.2.1 HP.out.2.2)).mono ?_
                  rintro e w1 ⟨rfl, f4, sl2, t2, r2, o2⟩
                  have HR := Lib.hid (show Sl w1 lo hi 9 1 (some ⟨g, 0, none⟩) n c (strs (row (f4) n)) ∧ Mrg R S f f4 B b n ∧ Only g (g + 1) w0 w1 by
                    have hb := HBA.out
                    rw [HCB.out] at hb
                    subst hb
                    exact ⟨sl2, HMR.out.step hB0 HDA.out hbn t2 r2, o2⟩)
                  clear sl2 t2 r2 o2
                  go_wp2
                  go_roundw
                  case rel => exact ⟨b, b', f4, rfl, rfl, HB2.out, by rw [HBA.out, HCB.out]; exact (Nat.dvd_add_right HDA.out).2 (Nat.dvd_refl _), hbn, HR.out.1, HR.out.2.1, HR.out.2.2⟩
                  case measure => have := HB2.out; simp [intOf]; omega
              · have hbn' : decide ((b : Int) ≤ (n : Int)) = false := decide_eq_false (by omega)
                have hbn2 : decide (b ≤ n) = false := decide_eq_false hbn
                by_cases hmn : m < n
                · as_aux_lemma =>
                    have hpre := HMR.out.pre (b := n) HDA.out (by omega) (by have := HCB.out; omega) (Nat.le_refl _)
                    rw [← HM.out] at hpre
                    have HP := Lib.hid hpre
                    have hma : a < m := by omega
                    clear hpre hab
                    go_wp2_with fail
                    refine ((symMerge_any g n c lo hi g2 g3 cf R S w0 (by omega) HC.out hord (n - a) a m n f3 _ (Nat.le_refl _) hma hmn (Nat.le_refl _) HSL.out HO.out HP.out.1 HP.out.2.1 HP.out.2.2)).mono ?_
                    rintro e w1 ⟨rfl, f4, sl2, t2, r2, o2⟩
                    have HR := Lib.hid (show Sl w1 lo hi 9 1 (some ⟨g, 0, none⟩) n c (strs (row (f4) n)) ∧ (Blks R S f4 C n ∧ Turned f f4 0 n n) ∧ Only g (g + 1) w0 w1 from ⟨sl2, by rw [HCB.out]; exact HMR.out.last HDA.out (by have := HCB.out; have := HBA.out; omega) han t2 r2, o2⟩)
                    clear sl2 t2 r2 o2
                    go_wp2
                    go_roundw
                    case rel => exact ⟨C, f4, rfl, by have := HCB.out; omega, HR.out.1, HR.out.2.1.1, HR.out.2.1.2, HR.out.2.2⟩
                    case measure => have := HCB.out; simp [intOf]; omega
                · as_aux_lemma =>
                    have hmn' : decide ((m : Int) < (n : Int)) = false := decide_eq_false (by omega)
                    have hmn2 : decide (m < n) = false := decide_eq_false hmn
                    have HR := Lib.hid (show Blks R S f3 C n ∧ Turned f f3 0 n n by rw [HCB.out]; exact HMR.out.last' hB0 HDA.out (by omega) han)
                    clear hab
                    go_wp2
                    go_roundw
                    case rel => exact ⟨C, f3, rfl, by have := HCB.out; omega, HSL.out, HR.out.1, HR.out.2, HO.out⟩
                    case measure => have := HCB.out; simp [intOf]; omega
          · have hlt' : decide ((B : Int) < (n : Int)) = false := decide_eq_false (by omega)
            have hlt2 : decide (B < n) = false := decide_eq_false hlt
            have HR := Lib.hid (show Srt R f2 0 n from (HBL.out.srt 0 ⟨0, rfl⟩).sub (Nat.le_refl _) (by omega))
            go_wp2
            go_end0
            exact ⟨rfl, f2, HSL.out, HTU.out, HR.out, HO.out⟩
theorem sortStable_any (g n c lo hi g2 g3 : Nat) (cf : ByteArray → ByteArray → Int) (R S : ByteArray → ByteArray → Prop) (w0 : World) (hn : n ≤ 100000000) (hc : CmpAt w0 g g2 g3 cf) (hord : Ord3 (fun x y => decide (cf x y < 0)) R S) (f : Nat → ByteArray) (w : World) (h : Sl w lo hi 9 1 (some ⟨g, 0, none⟩) n c (strs (row (f) n))) (ho : Only g (g + 1) w0 w) (hs : Srt S f 0 n) :
    Calls Try.prog 145 #[.slice (some ⟨g, 0, none⟩) n c, .func (.func 146) #[] #[.pointer (some ⟨g2, 0, none⟩), .pointer (some ⟨g3, 0, none⟩)]] w fun e w' => e = .returned (.tuple #[]) ∧ ∃ f' : Nat → ByteArray, Sl w' lo hi 9 1 (some ⟨g, 0, none⟩) n c (strs (row (f') n)) ∧ Turned f f' 0 n n ∧ Srt R f' 0 n ∧ Only g (g + 1) w0 w' := by
  go_enter Try.func145, Try.ntmps145
  go_wp2_with fail
  refine (stable_any g n c lo hi g2 g3 cf R S w0 hn hc hord f _ h ho hs).mono ?_
  rintro e w1 ⟨rfl, hh⟩
  have HH := Lib.hid hh
  clear hh
  go_wp2
  go_end0
  exact ⟨rfl, HH.out⟩
end Go.Proofs.Ytnlghcpidlpfkaa
