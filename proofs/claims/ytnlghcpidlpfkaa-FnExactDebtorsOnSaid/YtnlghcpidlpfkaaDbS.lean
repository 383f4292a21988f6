/- The clients that owe, in the reference: each is put to its place. -/
import Derived.Test.YtnlghcpidlpfkaaDbP
import Derived.Test.YtnlghcpidlpfkaaBkB
set_option linter.unusedVariables false
set_option linter.unusedSimpArgs false
namespace Go.Proofs.Ytnlghcpidlpfkaa
open Go.RowKit

set_option maxHeartbeats 4000000 in
set_option maxRecDepth 100000 in
theorem specDebtorsOn_any (A : Option Addr) (n c : Nat) (l : List Bk) (dd : Int) (B : Nat) (w : World) (h : Reads w B 3 A n (bks l)) (hB : B ≤ w.heap.size) (hn : n ≤ 1048576) (hsm : ∀ x ∈ l, x.small) (hd : I64 dd) :
    Calls Try.prog 49 #[.slice A n c, .int .i64 dd] w fun e w' => ∃ A' m c', e = .returned (.tuple #[.slice A' m c', .int .i64 (debtorsN l dd).2]) ∧ Sl w' w.heap.size w'.heap.size 9 1 A' m c' (strs (debtorsN l dd).1) ∧ Below w.heap.size w w' := by
  rcases hok : okBks l with _ | _
  · have HO := Lib.hid (debtorsN_bad (d := dd) hok)
    have HOK := Lib.hid hok
    clear hok
    go_enter Try.func49, Try.ntmps49
    go_wp2_with fail
    refine (l25Ok_any A n c B l _ h hn hB hsm).mono ?_
    rw [HOK.out]
    rintro e w1 ⟨rfl, b1⟩
    have HB1 := Lib.hid b1
    clear b1
    go_wp2
    go_ret2
    rw [HO.out]
    exact ⟨_, _, _, rfl, Sl.nil _ _ _ _ _, HB1.out⟩
  rcases hday : inR dd 0 20000 with _ | _
  · have HO := Lib.hid (debtorsN_day hok hday)
    have HOK := Lib.hid hok
    have HD := Lib.hid hday
    clear hok hday
    go_enter Try.func49, Try.ntmps49
    go_wp2_with fail
    refine (l25Ok_any A n c B l _ h hn hB hsm).mono ?_
    rw [HOK.out]
    rintro e w1 ⟨rfl, b1⟩
    have HB1 := Lib.hid b1
    clear b1
    go_wp2_with fail
    refine (l25Day_any _ _).mono ?_
    rw [HD.out]
    rintro e w' ⟨rfl, rfl⟩
    go_wp2
    go_ret2
    rw [HO.out]
    exact ⟨_, _, _, rfl, Sl.nil _ _ _ _ _, HB1.out⟩
  · have HO := Lib.hid (debtorsN_ok hok hday)
    have HOK := Lib.hid hok
    have HD := Lib.hid hday
    have HL80 := Lib.hid (okBks_len hok)
    have HNL := Lib.hid (names_len l)
    clear hok hday
    go_enter Try.func49, Try.ntmps49
    go_wp2_with fail
    refine (l25Ok_any A n c B l _ h hn hB hsm).mono ?_
    rw [HOK.out]
    rintro e w1 ⟨rfl, b1⟩
    have z1 := b1.size
    have HR1 := Lib.hid (h.on hB b1)
    have HB1 := Lib.hid b1
    clear b1 h
    go_wp2_with fail
    refine (l25Day_any _ _).mono ?_
    rw [HD.out]
    rintro e w' ⟨rfl, rfl⟩
    go_wp2_with fail
    refine (l25Names_any A n c B l _ HR1.out (by omega) hn).mono ?_
    rintro e w2 ⟨A6, m6, c6, rfl, s6, b2⟩
    have z2 := b2.size
    have HR2 := Lib.hid (HR1.out.on (by omega) b2)
    have HB2 := Lib.hid (bnext HB1.out b2 (Nat.le_refl _))
    have HN := Lib.hid s6
    have hml : (namesB l).length = m6 := by have := s6.len; rw [strs_length] at this; omega
    have hm80 : m6 ≤ 80 := by have := HL80.out; have := HNL.out; omega
    have HML := Lib.hid hml
    have HSL0 := Lib.hid (Sl.made w2 9 1)
    clear b2 s6 hml HR1 HB1
    go_wp2
    go_loopw [7, 8] (fun o i wr => ∃ (k g cd : Nat) (xs : List ByteArray), k ≤ m6 ∧ i = .int .i64 (k : Int) ∧ o = .slice (some ⟨g, 0, none⟩) xs.length cd ∧ xs.Pairwise (balR l dd) ∧ (∀ t, t ∈ xs ↔ t ∈ ((namesB l).take k).filter (owes l dd)) ∧ xs.length ≤ k ∧ Sl wr w2.heap.size wr.heap.size 9 1 (some ⟨g, 0, none⟩) xs.length cd (strs xs) ∧ Below w2.heap.size w2 wr) (fun _ i _ => m6 - (intOf i).toNat)
    case atStart => exact ⟨0, w2.heap.size, 0, [], Nat.zero_le _, rfl, rfl, List.Pairwise.nil, fun t => by simp, Nat.le_refl _, HSL0.out.wide (Nat.le_refl _) (hi' := (w2.alloc (.cells #[] 9)).heap.size) (by simp), (Below.refl _ _).alloc (Nat.le_refl _) _⟩
    case round =>
      clear HSL0
      obtain ⟨k, g, cd, xs, hk, rfl, rfl, hpw, hmem, hxk, hsl, hbel⟩ := hrel
      have HSL := Lib.hid hsl
      have HB := Lib.hid hbel
      have HPW := Lib.hid hpw
      have HM := Lib.hid hmem
      have zr := hbel.size
      have hxd : xs.length ≤ cd := by
        rcases hsl.form with ⟨h1, _⟩ | ⟨g', cur, _, _, _, _, h2, _⟩
        · cases h1
        · exact h2
      have hg : g < wr.heap.size := hsl.2 _ rfl
      have hg0 : w2.heap.size ≤ g := by
        rcases hsl.form with ⟨h1, _⟩ | ⟨g', cur, h1, h2, _⟩
        · cases h1
        · injection h1 with h1; injection h1 with h1; subst h1; exact h2
      clear hsl hbel hpw hmem
      by_cases hlt : k < m6
      · obtain ⟨t, b, off, he, rfl, hb, c1⟩ := str_at ((HN.out.on HB.out).reads (B := w2.heap.size) (Nat.le_refl _)) hlt
        have HT := Lib.hid he
        have hk0 : (0 : Int) ≤ k := by omega
        have hk1 : (k : Int) < m6 := by omega
        have HBK := Lib.hid (HR2.out.on (by omega) HB.out)
        have R := HSL.out.reads (Nat.le_refl _)
        clear he
        go_wp2_with fail
        refine (l25Balance_any A n c l t dd B _ HBK.out HOK.out hd).mono ?_
        rintro e w' ⟨rfl, rfl⟩
        by_cases hpos : bal l t dd ≤ 0
        · have HMM := Lib.hid (show ∀ u, u ∈ xs ↔ u ∈ ((namesB l).take (k + 1)).filter (owes l dd) from fun u => by
            rw [HM.out, List.take_add_one, HT.out]
            have : ¬ 0 < bal l t dd := by omega
            simp [owes, this])
          clear c1 R
          go_wp2
          go_roundw
          case rel => exact ⟨k + 1, g, cd, xs, by omega, by go_num, rfl, HPW.out, HMM.out, by omega, HSL.out, HB.out⟩
          case measure => simp [intOf]; omega
        · have hpos' : decide (bal l t dd ≤ 0) = false := decide_eq_false hpos
          have HX := Lib.hid (show ∀ u, (u ∈ ((namesB l).take (k + 1)).filter (owes l dd)) ↔ (u ∈ ((namesB l).take k).filter (owes l dd) ∨ u = t) from fun u => by
            have h0 : 0 < bal l t dd := by omega
            rw [List.take_add_one, HT.out]
            simp [owes, h0])
          have HSM := Lib.hid (show ∀ u ∈ xs, sless u t = true from fun u hu => by
            have h1 := (List.mem_filter.1 ((HM.out u).1 hu)).1
            obtain ⟨i, hi, rfl⟩ := List.mem_iff_getElem.1 h1
            have hi2 : i < k ∧ i < (namesB l).length := by simp at hi; omega
            rw [List.getElem_take]
            obtain ⟨hkk, hkt⟩ := List.getElem?_eq_some_iff.1 HT.out
            rw [← hkt]
            exact List.pairwise_iff_getElem.1 (names_ss l) i k hi2.2 hkk hi2.1)
          have HNB := Lib.hid (show bal l t dd = bal l t dd from rfl)
          generalize hnb : bal l t dd = nb at *
          have HNB2 := Lib.hid hnb
          clear hnb HNB
          go_wp2
          rename World => wo
          go_loopw [10] (fun p wr => ∃ j : Nat, j ≤ xs.length ∧ p = .int .i64 (j : Int) ∧ (∀ (i : Nat) (y : ByteArray), j ≤ i → xs[i]? = some y → balR l dd t y) ∧ Below wo.heap.size wo wr) (fun p _ => (intOf p).toNat)
          case atStart =>
            have hst : ∀ (i : Nat) (y : ByteArray), xs.length ≤ i → xs[i]? = some y → balR l dd t y := fun i y hi hy => by
              rw [List.getElem?_eq_none hi] at hy; cases hy
            exact ⟨xs.length, Nat.le_refl _, rfl, hst, Below.refl _ _⟩
          case round =>
            obtain ⟨j, hj, rfl, hhi, hbel2⟩ := hrel
            have HHI := Lib.hid hhi
            have HB2 := Lib.hid hbel2
            have R2 := R.on (Nat.le_refl _) hbel2
            have HBK2 := Lib.hid (HBK.out.on (by omega) hbel2)
            have c1q := cell_on hbel2 c1
            clear hhi hbel2
            rcases Nat.eq_zero_or_pos j with h0 | h0
            · obtain rfl := h0
              have hp1 : decide ((0 : Int) < ((0 : Nat) : Int)) = false := rfl
              have hplace : (∀ (i : Nat) (y : ByteArray), i < 0 → xs[i]? = some y → balR l dd y t) ∧ (∀ (i : Nat) (y : ByteArray), 0 ≤ i → xs[i]? = some y → balR l dd t y) := ⟨fun i y hi => by omega, HHI.out⟩
              clear HHI
              obtain ⟨W, hW⟩ : ∃ W, wr = W := ⟨_, rfl⟩
              have hbelW : Below wo.heap.size wo W := by rw [← hW]; exact HB2.out
              rw [hW]
              clear hW HB2
              have zW := hbelW.size
              have HBW := Lib.hid (bnext HB.out hbelW (by omega))
              have HSLW := Lib.hid (HSL.out.on hbelW)
              have c1W := cell_on hbelW c1
              have HNEW := Lib.hid (pw_ins HPW.out (fun _ _ _ => balR_trans) hplace.1 hplace.2)
              have hcell := fun (V : World) (hV : V.heap[g]? = W.heap[g]?) (i : Nat) (u : Value) (hu : (strs xs)[i]? = some u) => show V.cell? ⟨g, i, none⟩ = some u from by
                have hi : i < xs.length := by have := (List.getElem?_eq_some_iff.1 hu).1; rwa [strs_length] at this
                rw [World.cell?_of_block hV, HSLW.out.cellAt i (by omega)]
                exact hu
              have HCELL := Lib.hid hcell
              clear hcell hplace hbelW c1q R2 HBK2
              have acc0 := Lib.hid (Acc.made W 9 1)
              have htk : strs (xs.take 0) = (strs xs).take 0 := by simp [strs, List.map_take]
              have hdr : strs (xs.drop 0) = (strs xs).drop 0 := by simp [strs, List.map_drop]
              have HDR := Lib.hid hdr
              have hc1 := Lib.hid (show ∀ i u, (strs (xs.take 0))[i]? = some u → (W.alloc (.cells #[] 9)).cell? ⟨g, 0 + i, none⟩ = some u from fun i u hu => by
                rw [Nat.zero_add]
                refine HCELL.out _ (Below.heap_alloc W _ g (by omega)) i u ?_
                rw [htk, List.getElem?_take] at hu
                split at hu
                · exact hu
                · cases hu)
              clear htk hdr
              have hj0 : (0 : Int) ≤ 0 := by omega
              have hj1 : (0 : Int) ≤ cd := by omega
              have hj2 : (0 : Int) ≤ xs.length := by omega
              have hgW : g < W.heap.size := by omega
              have hbW : b < W.heap.size := by omega
              have hge : ¬ g = W.heap.size := by omega
              have HLEN := Lib.hid (show (xs.take 0 ++ [t] ++ xs.drop 0).length = 0 + 1 + (xs.length - 0) by simp; omega)
              have HSTR := Lib.hid (show strs (xs.take 0 ++ [t] ++ xs.drop 0) = strs (xs.take 0) ++ [.string t] ++ strs (xs.drop 0) by simp [strs])
              have HMEM := Lib.hid (show ∀ u, u ∈ xs.take 0 ++ [t] ++ xs.drop 0 ↔ u ∈ ((namesB l).take (k + 1)).filter (owes l dd) from fun u => by
                rw [HX.out, ← HM.out]
                have e : u ∈ xs ↔ u ∈ xs.take 0 ∨ u ∈ xs.drop 0 := by rw [← List.mem_append, List.take_append_drop]
                rw [e]
                simp only [List.mem_append, List.mem_singleton]
                constructor
                · rintro ((h | h) | h)
                  · exact .inl (.inl h)
                  · exact .inr h
                  · exact .inl (.inr h)
                · rintro ((h | h) | h)
                  · exact .inl (.inl h)
                  · exact .inr h
                  · exact .inl (.inr h))
              go_wp2_with (first
                | (at_builtin; refine wpList_accMany rfl _ _ 79 rfl 9 _ 1 16 Try.underlying79 info_str rfl (by decide) (by decide) acc0.out (Nat.le_refl _) rfl g 0 0 cd (strs (xs.take 0)) rfl (by rw [strs_length, List.length_take]; omega) hc1.out (strs_one _) (by omega) ?_; intro A3 d3 w3 hacc3; rw [Nat.zero_add]; rw [Nat.zero_add, List.nil_append] at hacc3; have HA3 := Lib.hid hacc3; have c13 := (hacc3.cell (p := ⟨b, off + k, none⟩) hbW (by simp only; omega)).trans c1W; clear hacc3 acc0 hc1)
                | (at_builtin; refine wpList_acc rfl _ _ 79 rfl 9 _ 1 16 Try.underlying79 info_str rfl (by decide) (by decide) HA3.out (Nat.le_refl _) rfl [.string t] rfl rfl (fun u hu => by simp at hu; subst hu; rfl) (by omega) ?_; intro A4 d4 w4 hacc4; have HA4 := Lib.hid hacc4; clear hacc4 c13)
                | (at_builtin; refine wpList_accMany rfl _ _ 79 rfl 9 _ 1 16 Try.underlying79 info_str rfl (by decide) (by decide) HA4.out (Nat.le_refl _) rfl g 0 xs.length _ (strs (xs.drop 0)) rfl (by rw [strs_length, List.length_drop]; omega) (fun i u hu => (by rw [HDR.out, List.getElem?_drop] at hu; exact HCELL.out _ (HA4.out.block g hgW hge) _ u hu)) (strs_one _) (by omega) ?_; intro A5 d5 w5 hacc5; have sl5 := hacc5.sl (lo := w2.heap.size) (by omega) (by omega); have b5 := hacc5.below (B := w2.heap.size) (by omega) (by omega); obtain ⟨g5, rfl, _, _, _⟩ := sl5.lt (by omega); have HS5 := Lib.hid sl5; have HB5 := Lib.hid b5; clear sl5 b5 hacc5))
              go_roundw
              case rel => exact ⟨k + 1, g5, d5, _, by omega, by go_num, (by first | (rw [HLEN.out]; done) | (rw [HLEN.out]; rfl) | (rw [HLEN.out]; congr 1; omega)), HNEW.out, HMEM.out, by rw [HLEN.out]; omega, (by rw [HLEN.out, HSTR.out]; first | exact HS5.out | (have h9 := HS5.out; simpa [Nat.add_comm] using h9)), HBW.out.trans HB5.out⟩
              case measure => simp [intOf]; omega
            · obtain ⟨q, rfl⟩ : ∃ q, j = q + 1 := ⟨j - 1, by omega⟩
              clear h0
              obtain ⟨y, b', off', hy, hA, hb', cy⟩ := str_at R2 (show q < xs.length by omega)
              injection hA with hA; injection hA with hA hA2; subst hA; subst hA2
              rw [Nat.zero_add] at cy
              have hqw : IntKind.i64.wrap (q : Int) = q := by rw [IntKind.wrap_i64]; omega
              have hq0 : (0 : Int) ≤ q := by omega
              have hq1 : (q : Int) < xs.length := by omega
              have hq2 : decide ((0 : Int) < (q : Int) + 1) = true := by rw [decide_eq_true_iff]; omega
              have HY := Lib.hid hy
              clear hy
              by_cases hs : bal l y dd < nb
              · have HTY := Lib.hid (show balR l dd t y from .inl (by rw [HNB2.out]; exact hs))
                go_wp2_with fail
                refine (l25Balance_any A n c l y dd B _ HBK2.out HOK.out hd).mono ?_
                rintro e w' ⟨rfl, rfl⟩
                clear hqw hq2
                go_wp2
                go_roundw
                case rel => exact ⟨q, by omega, by go_num, fun i z hi hz => by
                  by_cases e : i = q
                  · subst e; rw [HY.out] at hz; injection hz with hz; subst hz; exact HTY.out
                  · exact HHI.out i z (by omega) hz, HB2.out⟩
                case measure => simp [intOf]
              · have hs' : decide (bal l y dd < nb) = false := decide_eq_false hs
                have hlo1 : balR l dd y t := by
                  by_cases e : nb < bal l y dd
                  · exact .inl (by rw [HNB2.out]; exact e)
                  · exact .inr ⟨by rw [HNB2.out]; omega, HSM.out y (List.mem_of_getElem? HY.out)⟩
                have hplace : (∀ (i : Nat) (z : ByteArray), i < q + 1 → xs[i]? = some z → balR l dd z t) ∧ (∀ (i : Nat) (z : ByteArray), q + 1 ≤ i → xs[i]? = some z → balR l dd t z) := ⟨fun i z hi hz => by
                  by_cases e : i = q
                  · subst e; rw [HY.out] at hz; injection hz with hz; subst hz; exact hlo1
                  · have hz2 := (List.getElem?_eq_some_iff.1 hz)
                    have hy2 := (List.getElem?_eq_some_iff.1 HY.out)
                    have := List.pairwise_iff_getElem.1 HPW.out i q hz2.1 hy2.1 (by omega)
                    rw [hz2.2, hy2.2] at this
                    exact balR_trans this hlo1, HHI.out⟩
                clear HHI hlo1
                go_wp2_with fail
                refine (l25Balance_any A n c l y dd B _ HBK2.out HOK.out hd).mono ?_
                rintro e w' ⟨rfl, rfl⟩
                clear hq2
                obtain ⟨W, hW⟩ : ∃ W, wr = W := ⟨_, rfl⟩
                have hbelW : Below wo.heap.size wo W := by rw [← hW]; exact HB2.out
                rw [hW]
                clear hW HB2
                have zW := hbelW.size
                have HBW := Lib.hid (bnext HB.out hbelW (by omega))
                have HSLW := Lib.hid (HSL.out.on hbelW)
                have c1W := cell_on hbelW c1
                have HNEW := Lib.hid (pw_ins HPW.out (fun _ _ _ => balR_trans) hplace.1 hplace.2)
                have hcell := fun (V : World) (hV : V.heap[g]? = W.heap[g]?) (i : Nat) (u : Value) (hu : (strs xs)[i]? = some u) => show V.cell? ⟨g, i, none⟩ = some u from by
                  have hi : i < xs.length := by have := (List.getElem?_eq_some_iff.1 hu).1; rwa [strs_length] at this
                  rw [World.cell?_of_block hV, HSLW.out.cellAt i (by omega)]
                  exact hu
                have HCELL := Lib.hid hcell
                clear hcell hplace hbelW c1q R2 HBK2
                have acc0 := Lib.hid (Acc.made W 9 1)
                have htk : strs (xs.take (q + 1)) = (strs xs).take (q + 1) := by simp [strs, List.map_take]
                have hdr : strs (xs.drop (q + 1)) = (strs xs).drop (q + 1) := by simp [strs, List.map_drop]
                have HDR := Lib.hid hdr
                have hc1 := Lib.hid (show ∀ i u, (strs (xs.take (q + 1)))[i]? = some u → (W.alloc (.cells #[] 9)).cell? ⟨g, 0 + i, none⟩ = some u from fun i u hu => by
                  rw [Nat.zero_add]
                  refine HCELL.out _ (Below.heap_alloc W _ g (by omega)) i u ?_
                  rw [htk, List.getElem?_take] at hu
                  split at hu
                  · exact hu
                  · cases hu)
                clear htk hdr
                have hj0 : (0 : Int) ≤ (q + 1) := by omega
                have hj1 : ((q + 1) : Int) ≤ cd := by omega
                have hj2 : ((q + 1) : Int) ≤ xs.length := by omega
                have hgW : g < W.heap.size := by omega
                have hbW : b < W.heap.size := by omega
                have hge : ¬ g = W.heap.size := by omega
                have HLEN := Lib.hid (show (xs.take (q + 1) ++ [t] ++ xs.drop (q + 1)).length = (q + 1) + 1 + (xs.length - (q + 1)) by simp; omega)
                have HSTR := Lib.hid (show strs (xs.take (q + 1) ++ [t] ++ xs.drop (q + 1)) = strs (xs.take (q + 1)) ++ [.string t] ++ strs (xs.drop (q + 1)) by simp [strs])
                have HMEM := Lib.hid (show ∀ u, u ∈ xs.take (q + 1) ++ [t] ++ xs.drop (q + 1) ↔ u ∈ ((namesB l).take (k + 1)).filter (owes l dd) from fun u => by
                  rw [HX.out, ← HM.out]
                  have e : u ∈ xs ↔ u ∈ xs.take (q + 1) ∨ u ∈ xs.drop (q + 1) := by rw [← List.mem_append, List.take_append_drop]
                  rw [e]
                  simp only [List.mem_append, List.mem_singleton]
                  constructor
                  · rintro ((h | h) | h)
                    · exact .inl (.inl h)
                    · exact .inr h
                    · exact .inl (.inr h)
                  · rintro ((h | h) | h)
                    · exact .inl (.inl h)
                    · exact .inr h
                    · exact .inl (.inr h))
                by_cases hdj : cd = q + 1
                · obtain rfl := hdj
                  go_wp2_with (first
                    | (at_builtin; refine wpList_accMany rfl _ _ 79 rfl 9 _ 1 16 Try.underlying79 info_str rfl (by decide) (by decide) acc0.out (Nat.le_refl _) rfl g 0 (q + 1) (q + 1) (strs (xs.take (q + 1))) rfl (by rw [strs_length, List.length_take]; omega) hc1.out (strs_one _) (by omega) ?_; intro A3 d3 w3 hacc3; rw [Nat.zero_add]; rw [Nat.zero_add, List.nil_append] at hacc3; have HA3 := Lib.hid hacc3; have c13 := (hacc3.cell (p := ⟨b, off + k, none⟩) hbW (by simp only; omega)).trans c1W; clear hacc3 acc0 hc1)
                    | (at_builtin; refine wpList_acc rfl _ _ 79 rfl 9 _ 1 16 Try.underlying79 info_str rfl (by decide) (by decide) HA3.out (Nat.le_refl _) rfl [.string t] rfl rfl (fun u hu => by simp at hu; subst hu; rfl) (by omega) ?_; intro A4 d4 w4 hacc4; have HA4 := Lib.hid hacc4; clear hacc4 c13)
                    | (at_builtin; refine wpList_accMany rfl _ _ 79 rfl 9 _ 1 16 Try.underlying79 info_str rfl (by decide) (by decide) HA4.out (Nat.le_refl _) rfl g 0 0 _ [] rfl rfl (fun i u hu => (by simp at hu)) (fun u hu => (by simp at hu)) (by omega) ?_; intro A5 d5 w5 hacc5; have sl5 := hacc5.sl (lo := w2.heap.size) (by omega) (by omega); have b5 := hacc5.below (B := w2.heap.size) (by omega) (by omega); obtain ⟨g5, rfl, _, _, _⟩ := sl5.lt (by omega); have HS5 := Lib.hid sl5; have HB5 := Lib.hid b5; clear sl5 b5 hacc5))
                  go_roundw
                  case rel => exact ⟨k + 1, g5, d5, _, by omega, by go_num, (by first | (rw [HLEN.out]; done) | (rw [HLEN.out]; rfl) | (rw [HLEN.out]; congr 1; omega)), HNEW.out, HMEM.out, by rw [HLEN.out]; omega, (by have h9 := HS5.out; have e1 : strs (xs.drop (q + 1)) = [] := (by rw [HDR.out]; exact List.drop_eq_nil_of_le (by rw [strs_length]; omega)); have e2 : q + 1 + 1 + (xs.length - (q + 1)) = q + 1 + 1 := (by omega); rw [HLEN.out, HSTR.out, e1, List.append_nil, e2]; simpa using h9), HBW.out.trans HB5.out⟩
                  case measure => simp [intOf]; omega
                · skip
                  go_wp2_with (first
                    | (at_builtin; refine wpList_accMany rfl _ _ 79 rfl 9 _ 1 16 Try.underlying79 info_str rfl (by decide) (by decide) acc0.out (Nat.le_refl _) rfl g 0 (q + 1) cd (strs (xs.take (q + 1))) rfl (by rw [strs_length, List.length_take]; omega) hc1.out (strs_one _) (by omega) ?_; intro A3 d3 w3 hacc3; rw [Nat.zero_add]; rw [Nat.zero_add, List.nil_append] at hacc3; have HA3 := Lib.hid hacc3; have c13 := (hacc3.cell (p := ⟨b, off + k, none⟩) hbW (by simp only; omega)).trans c1W; clear hacc3 acc0 hc1)
                    | (at_builtin; refine wpList_acc rfl _ _ 79 rfl 9 _ 1 16 Try.underlying79 info_str rfl (by decide) (by decide) HA3.out (Nat.le_refl _) rfl [.string t] rfl rfl (fun u hu => by simp at hu; subst hu; rfl) (by omega) ?_; intro A4 d4 w4 hacc4; have HA4 := Lib.hid hacc4; clear hacc4 c13)
                    | (at_builtin; refine wpList_accMany rfl _ _ 79 rfl 9 _ 1 16 Try.underlying79 info_str rfl (by decide) (by decide) HA4.out (Nat.le_refl _) rfl g (q + 1) (xs.length - (q + 1)) _ (strs (xs.drop (q + 1))) rfl (by rw [strs_length, List.length_drop]; omega) (fun i u hu => (by rw [HDR.out, List.getElem?_drop] at hu; exact HCELL.out _ (HA4.out.block g hgW hge) _ u hu)) (strs_one _) (by omega) ?_; intro A5 d5 w5 hacc5; have sl5 := hacc5.sl (lo := w2.heap.size) (by omega) (by omega); have b5 := hacc5.below (B := w2.heap.size) (by omega) (by omega); obtain ⟨g5, rfl, _, _, _⟩ := sl5.lt (by omega); have HS5 := Lib.hid sl5; have HB5 := Lib.hid b5; clear sl5 b5 hacc5))
                  go_roundw
                  case rel => exact ⟨k + 1, g5, d5, _, by omega, by go_num, (by first | (rw [HLEN.out]; done) | (rw [HLEN.out]; rfl) | (rw [HLEN.out]; congr 1; omega)), HNEW.out, HMEM.out, by rw [HLEN.out]; omega, (by rw [HLEN.out, HSTR.out]; first | exact HS5.out | (have h9 := HS5.out; simpa [Nat.add_comm] using h9)), HBW.out.trans HB5.out⟩
                  case measure => simp [intOf]; omega
      · obtain rfl : k = m6 := by omega
        have hxs : xs = debtF l dd := by
          have hm := HM.out
          rw [List.take_of_length_le (by have := HML.out; omega)] at hm
          exact debt_unique HPW.out hm
        go_wp2
        go_ret2
        rw [HO.out]
        exact ⟨_, _, _, rfl, by rw [← hxs]; exact HSL.out.wide (by omega) (Nat.le_refl _), HB2.out.trans (HB.out.mono (by omega))⟩
end Go.Proofs.Ytnlghcpidlpfkaa
