/- The names of all clients, in the reference: each new one is put to its place. -/
import Derived.Test.YtnlghcpidlpfkaaNmI
import Derived.Test.YtnlghcpidlpfkaaApp
import Derived.Test.YtnlghcpidlpfkaaStrS
import Derived.Deep.QuietTactic
import Derived.BigQuiet
import Derived.Laws.Cover1
set_option linter.unusedVariables false
set_option linter.unusedSimpArgs false
namespace Go.Proofs.Ytnlghcpidlpfkaa
open Go.RowKit

theorem strs_one (xs : List ByteArray) : ∀ u ∈ strs xs, u.oneCell' = true := by
  intro u hu
  obtain ⟨b, _, rfl⟩ := List.mem_map.1 hu
  rfl
theorem ss_ins {xs : List ByteArray} {x : ByteArray} {j : Nat} (h : SS xs) (hj : j ≤ xs.length) (h1 : ∀ (i : Nat) (y : ByteArray), i < j → xs[i]? = some y → sless y x = true) (h2 : ∀ (i : Nat) (y : ByteArray), j ≤ i → xs[i]? = some y → sless x y = true) : SS (xs.take j ++ [x] ++ xs.drop j) := by
  have hp : (xs.take j ++ xs.drop j).Pairwise fun a b => sless a b = true := by rw [List.take_append_drop]; exact h
  have hp' := List.pairwise_append.1 hp
  unfold SS
  rw [List.append_assoc, List.pairwise_append]
  refine ⟨hp'.1, ?_, fun a ha b hb => ?_⟩
  · rw [List.singleton_append, List.pairwise_cons]
    refine ⟨fun b hb => ?_, hp'.2.1⟩
    obtain ⟨i, e⟩ := List.mem_iff_getElem?.1 hb
    rw [List.getElem?_drop] at e
    exact h2 _ b (by omega) e
  · obtain ⟨i, hi⟩ := List.mem_iff_getElem?.1 ha
    rw [List.getElem?_take] at hi
    have hax : sless a x = true := by
      split at hi
      · rename_i hlt; exact h1 i a hlt hi
      · cases hi
    rcases List.mem_append.1 hb with hb | hb
    · rw [List.mem_singleton] at hb; subst hb; exact hax
    · exact hp'.2.2 a ha b hb
def hasB (xs : List ByteArray) (t : ByteArray) : Bool := xs.any fun y => y.toList == t.toList
theorem hasB_mem {xs : List ByteArray} {t : ByteArray} : hasB xs t = true ↔ t ∈ xs := by
  unfold hasB
  rw [List.any_eq_true]
  constructor
  · rintro ⟨y, hy, he⟩
    have := (beq_bl y t).1 he
    subst this; exact hy
  · intro h; exact ⟨t, h, (beq_bl t t).2 rfl⟩
theorem l21Has_any (A : Option Addr) (n c B : Nat) (l : List ByteArray) (x : ByteArray) (w : World) (h : Reads w B 1 A n (strs l)) (hn : n ≤ 1048576) :
    Calls Try.prog 206 #[.slice A n c, .string x] w fun e w' => e = .returned (.bool (hasB l x)) ∧ w = w' := by
  have HL := Lib.hid (strs_len h)
  go_enter Try.func206, Try.ntmps206
  go_wp2
  go_loop [5] (fun i => ∃ k : Nat, k ≤ n ∧ i = .int .i64 k ∧ AllTo (fun y : ByteArray => !(y.toList == x.toList)) l k) (fun i => n - (intOf i).toNat)
  case atStart => exact ⟨0, Nat.zero_le _, rfl, AllTo.zero _ _⟩
  case round =>
    obtain ⟨k, hk, rfl, hall⟩ := hrel
    have HA := Lib.hid hall
    clear hall
    by_cases hlt : k < n
    · obtain ⟨y, b, off, he, rfl, hb, c0⟩ := str_at h hlt
      have HE := Lib.hid he
      clear he
      rcases hy : (y.toList == x.toList) with _ | _
      · have HY := Lib.hid hy
        go_wp2
        go_round
        case rel => exact ⟨k + 1, by omega, by go_num, HA.out.step HE.out (by rw [HY.out]; rfl)⟩
        case measure => simp [intOf]; omega
      · have HY := Lib.hid (show hasB l x = true from any_of (p := fun z : ByteArray => z.toList == x.toList) HE.out hy)
        go_wp2
        go_ret
        exact ⟨ret_bool HY.out.symm, rfl⟩
    · obtain rfl : k = n := by omega
      have HY := Lib.hid (show hasB l x = false from any_none (p := fun z : ByteArray => z.toList == x.toList) HA.out HL.out)
      go_wp2
      go_ret
      exact ⟨ret_bool HY.out.symm, rfl⟩

set_option maxHeartbeats 4000000 in
set_option maxRecDepth 100000 in
theorem l25Names_any (A : Option Addr) (n c B : Nat) (l : List Bk) (w : World) (h : Reads w B 3 A n (bks l)) (hB : B ≤ w.heap.size) (hn : n ≤ 1048576) :
    Calls Try.prog 137 #[.slice A n c] w fun e w' => ∃ A' m d, e = .returned (.slice A' m d) ∧ Sl w' w.heap.size w'.heap.size 9 1 A' m d (strs (namesB l)) ∧ Below w.heap.size w w' := by
  have hl := Lib.hid (bks_len h)
  have HSL0 := Lib.hid (Sl.made w 9 1)
  go_enter Try.func137, Try.ntmps137
  go_wp2
  go_loopw [3, 4] (fun o i wr => ∃ (k g d : Nat) (xs : List ByteArray), k ≤ n ∧ i = .int .i64 (k : Int) ∧ o = .slice (some ⟨g, 0, none⟩) xs.length d ∧ SS xs ∧ (∀ t, t ∈ xs ↔ t ∈ (l.take k).map fun b : Bk => b.client) ∧ xs.length ≤ k ∧ Sl wr w.heap.size wr.heap.size 9 1 (some ⟨g, 0, none⟩) xs.length d (strs xs) ∧ Below w.heap.size w wr) (fun _ i _ => n - (intOf i).toNat)
  case atStart => exact ⟨0, w.heap.size, 0, [], Nat.zero_le _, rfl, rfl, List.Pairwise.nil, fun t => by simp, Nat.le_refl _, HSL0.out.wide (Nat.le_refl _) (hi' := (w.alloc (.cells #[] 9)).heap.size) (by simp), (Below.refl _ _).alloc (Nat.le_refl _) _⟩
  case round =>
    obtain ⟨k, g, d, xs, hk, rfl, rfl, hss, hmem, hxk, hsl, hbel⟩ := hrel
    have HSL := Lib.hid hsl
    have HB := Lib.hid hbel
    have HSS := Lib.hid hss
    have HM := Lib.hid hmem
    have zr := hbel.size
    have hxd : xs.length ≤ d := by
      rcases hsl.form with ⟨h1, _⟩ | ⟨g', cur, _, _, _, _, h2, _⟩
      · cases h1
      · exact h2
    have hg : g < wr.heap.size := hsl.2 _ rfl
    have hg0 : w.heap.size ≤ g := by
      rcases hsl.form with ⟨h1, _⟩ | ⟨g', cur, h1, h2, _⟩
      · cases h1
      · injection h1 with h1; injection h1 with h1; subst h1; exact h2
    clear hsl hbel hss hmem
    by_cases hlt : k < n
    · obtain ⟨x, b, off, he, rfl, hb, c0, c1, c2⟩ := bk_at (h.on hB HB.out) hlt
      have hx1 : ∀ t, (t ∈ (l.take (k + 1)).map fun b : Bk => b.client) ↔ ((t ∈ (l.take k).map fun b : Bk => b.client) ∨ t = x.client) := fun t => by rw [List.take_add_one, he]; simp
      have HX := Lib.hid hx1
      clear he hx1 c0 c2
      have R := HSL.out.reads (Nat.le_refl _)
      rcases hh : hasB xs x.client with _ | _
      · have hnot : ¬ x.client ∈ xs := fun hm => by rw [hasB_mem.2 hm] at hh; cases hh
        have HH := Lib.hid hh
        have HNOT := Lib.hid hnot
        clear hh hnot
        generalize hxc : x.client = t at *
        clear hxc
        go_wp2_with fail
        refine (l21Has_any _ _ _ _ xs t _ R (by omega)).mono ?_
        rw [HH.out]
        rintro e w' ⟨rfl, rfl⟩
        go_wp2
        rename World => wo
        go_loopw [5] (fun p wr => ∃ j : Nat, j ≤ xs.length ∧ p = .int .i64 (j : Int) ∧ (∀ (i : Nat) (y : ByteArray), j ≤ i → xs[i]? = some y → sless t y = true) ∧ Below wo.heap.size wo wr) (fun p _ => (intOf p).toNat)
        case atStart =>
          have hst : ∀ (i : Nat) (y : ByteArray), xs.length ≤ i → xs[i]? = some y → sless t y = true := fun i y hi hy => by
            rw [List.getElem?_eq_none hi] at hy; cases hy
          exact ⟨xs.length, Nat.le_refl _, rfl, hst, Below.refl _ _⟩
        case round =>
          obtain ⟨j, hj, rfl, hhi, hbel2⟩ := hrel
          have HHI := Lib.hid hhi
          have HB2 := Lib.hid hbel2
          have R2 := R.on (Nat.le_refl _) hbel2
          have c1q := cell_on hbel2 c1
          clear hhi hbel2
          rcases Nat.eq_zero_or_pos j with h0 | h0
          · obtain rfl := h0
            have hp1 : decide ((0 : Int) < ((0 : Nat) : Int)) = false := rfl
            have hplace : (∀ (i : Nat) (y : ByteArray), i < 0 → xs[i]? = some y → sless y t = true) ∧ (∀ (i : Nat) (y : ByteArray), 0 ≤ i → xs[i]? = some y → sless t y = true) := ⟨fun i y hi => by omega, HHI.out⟩
            clear HHI
            go_wp2_with fail
            go_quiet (fail)
            rename_i nq
            obtain ⟨W, hW⟩ : ∃ W, wr.drewN nq = W := ⟨_, rfl⟩
            have hbelW : Below wo.heap.size wo W := by rw [← hW]; exact below_drewN HB2.out nq
            rw [hW]
            clear hW HB2
            have zW := hbelW.size
            have HBW := Lib.hid (bnext HB.out hbelW (by omega))
            have HSLW := Lib.hid (HSL.out.on hbelW)
            have c1W := cell_on hbelW c1
            have HNEW := Lib.hid (ss_ins HSS.out hj hplace.1 hplace.2)
            have hcell := fun (V : World) (hV : V.heap[g]? = W.heap[g]?) (i : Nat) (u : Value) (hu : (strs xs)[i]? = some u) => show V.cell? ⟨g, i, none⟩ = some u from by
              have hi : i < xs.length := by have := (List.getElem?_eq_some_iff.1 hu).1; rwa [strs_length] at this
              rw [World.cell?_of_block hV, HSLW.out.cellAt i (by omega)]
              exact hu
            have HCELL := Lib.hid hcell
            clear hcell hplace hbelW c1q R2
            have acc0 := Lib.hid (Acc.made W 9 1)
            have htk : strs (xs.take 0) = (strs xs).take 0 := by simp [strs, List.map_take]
            have hdr : strs (xs.drop 0) = (strs xs).drop 0 := by simp [strs, List.map_drop]
            have HDR := Lib.hid hdr
            have hc1 := Lib.hid (show ∀ i u, (strs (xs.take 0))[i]? = some u → (W.alloc (.cells #[] 9)).cell? ⟨g, 0 + i, none⟩ = some u from fun i u hu => by
              rw [Nat.zero_add]
              refine HCELL.out _ (Below.heap_alloc W _ g (by omega)) i u ?_
              rw [htk, List.getElem?_take] at hu
              split at hu
              · exact hu
              · cases hu)
            clear htk hdr
            have hj0 : (0 : Int) ≤ 0 := by omega
            have hj1 : (0 : Int) ≤ d := by omega
            have hj2 : (0 : Int) ≤ xs.length := by omega
            have hgW : g < W.heap.size := by omega
            have hbW : b < W.heap.size := by omega
            have hge : ¬ g = W.heap.size := by omega
            have HLEN := Lib.hid (show (xs.take 0 ++ [t] ++ xs.drop 0).length = 0 + 1 + (xs.length - 0) by simp; omega)
            have HSTR := Lib.hid (show strs (xs.take 0 ++ [t] ++ xs.drop 0) = strs (xs.take 0) ++ [.string t] ++ strs (xs.drop 0) by simp [strs])
            have HMEM := Lib.hid (show ∀ u, u ∈ xs.take 0 ++ [t] ++ xs.drop 0 ↔ u ∈ (l.take (k + 1)).map fun b : Bk => b.client from fun u => by
              rw [HX.out, ← HM.out]
              have e : u ∈ xs ↔ u ∈ xs.take 0 ∨ u ∈ xs.drop 0 := by rw [← List.mem_append, List.take_append_drop]
              rw [e]
              simp only [List.mem_append, List.mem_singleton]
              constructor
              · rintro ((h | h) | h)
                · exact .inl (.inl h)
                · exact .inr h
                · exact .inl (.inr h)
              · rintro ((h | h) | h)
                · exact .inl (.inl h)
                · exact .inr h
                · exact .inl (.inr h))
            go_wp2_with (first
              | (at_builtin; refine wpList_accMany rfl _ _ 79 rfl 9 _ 1 16 Try.underlying79 info_str rfl (by decide) (by decide) acc0.out (Nat.le_refl _) rfl g 0 0 d (strs (xs.take 0)) rfl (by rw [strs_length, List.length_take]; omega) hc1.out (strs_one _) (by omega) ?_; intro A3 d3 w3 hacc3; rw [Nat.zero_add]; rw [Nat.zero_add, List.nil_append] at hacc3; have HA3 := Lib.hid hacc3; have c13 := (hacc3.cell (p := ⟨b, off + k * 3 + 1, none⟩) hbW (by simp only; omega)).trans c1W; clear hacc3 acc0 hc1)
              | (at_builtin; refine wpList_acc rfl _ _ 79 rfl 9 _ 1 16 Try.underlying79 info_str rfl (by decide) (by decide) HA3.out (Nat.le_refl _) rfl [.string t] rfl rfl (fun u hu => by simp at hu; subst hu; rfl) (by omega) ?_; intro A4 d4 w4 hacc4; have HA4 := Lib.hid hacc4; clear hacc4 c13)
              | (at_builtin; refine wpList_accMany rfl _ _ 79 rfl 9 _ 1 16 Try.underlying79 info_str rfl (by decide) (by decide) HA4.out (Nat.le_refl _) rfl g 0 xs.length _ (strs (xs.drop 0)) rfl (by rw [strs_length, List.length_drop]; omega) (fun i u hu => (by rw [HDR.out, List.getElem?_drop] at hu; exact HCELL.out _ (HA4.out.block g hgW hge) _ u hu)) (strs_one _) (by omega) ?_; intro A5 d5 w5 hacc5; have sl5 := hacc5.sl (lo := w.heap.size) (by omega) (by omega); have b5 := hacc5.below (B := w.heap.size) (by omega) (by omega); obtain ⟨g5, rfl, _, _, _⟩ := sl5.lt (by omega); have HS5 := Lib.hid sl5; have HB5 := Lib.hid b5; clear sl5 b5 hacc5))
            go_roundw
            case rel => exact ⟨k + 1, g5, d5, _, by omega, by go_num, (by first | (rw [HLEN.out]; done) | (rw [HLEN.out]; rfl) | (rw [HLEN.out]; congr 1; omega)), HNEW.out, HMEM.out, by rw [HLEN.out]; omega, (by rw [HLEN.out, HSTR.out]; first | exact HS5.out | (have h9 := HS5.out; simpa [Nat.add_comm] using h9)), HBW.out.trans HB5.out⟩
            case measure => simp [intOf]; omega
          · obtain ⟨q, rfl⟩ : ∃ q, j = q + 1 := ⟨j - 1, by omega⟩
            clear h0
            obtain ⟨y, b', off', hy, hA, hb', cy⟩ := str_at R2 (show q < xs.length by omega)
            injection hA with hA; injection hA with hA hA2; subst hA; subst hA2
            rw [Nat.zero_add] at cy
            have hne : (y.toList == t.toList) = false := by
              rcases hc : (y.toList == t.toList) with _ | _
              · rfl
              · have := (beq_bl y t).1 hc
                subst this
                exact absurd (List.mem_of_getElem? hy) HNOT.out
            have hqw : IntKind.i64.wrap (q : Int) = q := by rw [IntKind.wrap_i64]; omega
            have hq0 : (0 : Int) ≤ q := by omega
            have hq1 : (q : Int) < xs.length := by omega
            have hq2 : decide ((0 : Int) < (q : Int) + 1) = true := by rw [decide_eq_true_iff]; omega
            have HY := Lib.hid hy
            clear hy
            rcases hs : Op.bytesLess y.toList t.toList with _ | _
            · have hty : sless t y = true := by
                rw [sless_bl]
                have h1 : ¬ bl y < bl t := fun h2 => by
                  have := (sless_bl y t).2 h2
                  unfold sless at this; rw [hs] at this; cases this
                have h2 : bl y ≠ bl t := fun e => by
                  rw [(beq_bl y t).2 (bl_inj e)] at hne; cases hne
                exact Std.lt_of_le_of_ne (Std.not_lt.1 h1) (fun e => h2 e.symm)
              have HTY := Lib.hid hty
              clear hty
              go_wp2_with fail
              go_quiet (fail)
              clear hqw hq2 hs hne
              go_wp2
              go_roundw
              case rel => exact ⟨q, by omega, by go_num, fun i z hi hz => by
                by_cases e : i = q
                · subst e; rw [HY.out] at hz; injection hz with hz; subst hz; exact HTY.out
                · exact HHI.out i z (by omega) hz, below_drewN HB2.out _⟩
              case measure => simp [intOf]
            · have hlo1 : sless y t = true := hs
              have hplace : (∀ (i : Nat) (z : ByteArray), i < q + 1 → xs[i]? = some z → sless z t = true) ∧ (∀ (i : Nat) (z : ByteArray), q + 1 ≤ i → xs[i]? = some z → sless t z = true) := ⟨fun i z hi hz => by
                by_cases e : i = q
                · subst e; rw [HY.out] at hz; injection hz with hz; subst hz; exact hlo1
                · have hz2 := (List.getElem?_eq_some_iff.1 hz)
                  have hy2 := (List.getElem?_eq_some_iff.1 HY.out)
                  have := List.pairwise_iff_getElem.1 HSS.out i q hz2.1 hy2.1 (by omega)
                  rw [hz2.2, hy2.2] at this
                  exact sless_trans this hlo1, HHI.out⟩
              clear HHI hlo1
              go_wp2_with fail
              go_quiet (fail)
              clear hqw hq2 hs hne
              rename_i nq
              obtain ⟨W, hW⟩ : ∃ W, wr.drewN nq = W := ⟨_, rfl⟩
              have hbelW : Below wo.heap.size wo W := by rw [← hW]; exact below_drewN HB2.out nq
              rw [hW]
              clear hW HB2
              have zW := hbelW.size
              have HBW := Lib.hid (bnext HB.out hbelW (by omega))
              have HSLW := Lib.hid (HSL.out.on hbelW)
              have c1W := cell_on hbelW c1
              have HNEW := Lib.hid (ss_ins HSS.out hj hplace.1 hplace.2)
              have hcell := fun (V : World) (hV : V.heap[g]? = W.heap[g]?) (i : Nat) (u : Value) (hu : (strs xs)[i]? = some u) => show V.cell? ⟨g, i, none⟩ = some u from by
                have hi : i < xs.length := by have := (List.getElem?_eq_some_iff.1 hu).1; rwa [strs_length] at this
                rw [World.cell?_of_block hV, HSLW.out.cellAt i (by omega)]
                exact hu
              have HCELL := Lib.hid hcell
              clear hcell hplace hbelW c1q R2
              have acc0 := Lib.hid (Acc.made W 9 1)
              have htk : strs (xs.take (q + 1)) = (strs xs).take (q + 1) := by simp [strs, List.map_take]
              have hdr : strs (xs.drop (q + 1)) = (strs xs).drop (q + 1) := by simp [strs, List.map_drop]
              have HDR := Lib.hid hdr
              have hc1 := Lib.hid (show ∀ i u, (strs (xs.take (q + 1)))[i]? = some u → (W.alloc (.cells #[] 9)).cell? ⟨g, 0 + i, none⟩ = some u from fun i u hu => by
                rw [Nat.zero_add]
                refine HCELL.out _ (Below.heap_alloc W _ g (by omega)) i u ?_
                rw [htk, List.getElem?_take] at hu
                split at hu
                · exact hu
                · cases hu)
              clear htk hdr
              have hj0 : (0 : Int) ≤ (q + 1) := by omega
              have hj1 : ((q + 1) : Int) ≤ d := by omega
              have hj2 : ((q + 1) : Int) ≤ xs.length := by omega
              have hgW : g < W.heap.size := by omega
              have hbW : b < W.heap.size := by omega
              have hge : ¬ g = W.heap.size := by omega
              have HLEN := Lib.hid (show (xs.take (q + 1) ++ [t] ++ xs.drop (q + 1)).length = (q + 1) + 1 + (xs.length - (q + 1)) by simp; omega)
              have HSTR := Lib.hid (show strs (xs.take (q + 1) ++ [t] ++ xs.drop (q + 1)) = strs (xs.take (q + 1)) ++ [.string t] ++ strs (xs.drop (q + 1)) by simp [strs])
              have HMEM := Lib.hid (show ∀ u, u ∈ xs.take (q + 1) ++ [t] ++ xs.drop (q + 1) ↔ u ∈ (l.take (k + 1)).map fun b : Bk => b.client from fun u => by
                rw [HX.out, ← HM.out]
                have e : u ∈ xs ↔ u ∈ xs.take (q + 1) ∨ u ∈ xs.drop (q + 1) := by rw [← List.mem_append, List.take_append_drop]
                rw [e]
                simp only [List.mem_append, List.mem_singleton]
                constructor
                · rintro ((h | h) | h)
                  · exact .inl (.inl h)
                  · exact .inr h
                  · exact .inl (.inr h)
                · rintro ((h | h) | h)
                  · exact .inl (.inl h)
                  · exact .inr h
                  · exact .inl (.inr h))
              by_cases hdj : d = q + 1
              · obtain rfl := hdj
                go_wp2_with (first
                  | (at_builtin; refine wpList_accMany rfl _ _ 79 rfl 9 _ 1 16 Try.underlying79 info_str rfl (by decide) (by decide) acc0.out (Nat.le_refl _) rfl g 0 (q + 1) (q + 1) (strs (xs.take (q + 1))) rfl (by rw [strs_length, List.length_take]; omega) hc1.out (strs_one _) (by omega) ?_; intro A3 d3 w3 hacc3; rw [Nat.zero_add]; rw [Nat.zero_add, List.nil_append] at hacc3; have HA3 := Lib.hid hacc3; have c13 := (hacc3.cell (p := ⟨b, off + k * 3 + 1, none⟩) hbW (by simp only; omega)).trans c1W; clear hacc3 acc0 hc1)
                  | (at_builtin; refine wpList_acc rfl _ _ 79 rfl 9 _ 1 16 Try.underlying79 info_str rfl (by decide) (by decide) HA3.out (Nat.le_refl _) rfl [.string t] rfl rfl (fun u hu => by simp at hu; subst hu; rfl) (by omega) ?_; intro A4 d4 w4 hacc4; have HA4 := Lib.hid hacc4; clear hacc4 c13)
                  | (at_builtin; refine wpList_accMany rfl _ _ 79 rfl 9 _ 1 16 Try.underlying79 info_str rfl (by decide) (by decide) HA4.out (Nat.le_refl _) rfl g 0 0 _ [] rfl rfl (fun i u hu => (by simp at hu)) (fun u hu => (by simp at hu)) (by omega) ?_; intro A5 d5 w5 hacc5; have sl5 := hacc5.sl (lo := w.heap.size) (by omega) (by omega); have b5 := hacc5.below (B := w.heap.size) (by omega) (by omega); obtain ⟨g5, rfl, _, _, _⟩ := sl5.lt (by omega); have HS5 := Lib.hid sl5; have HB5 := Lib.hid b5; clear sl5 b5 hacc5))
                go_roundw
                case rel => exact ⟨k + 1, g5, d5, _, by omega, by go_num, (by first | (rw [HLEN.out]; done) | (rw [HLEN.out]; rfl) | (rw [HLEN.out]; congr 1; omega)), HNEW.out, HMEM.out, by rw [HLEN.out]; omega, (by have h9 := HS5.out; have e1 : strs (xs.drop (q + 1)) = [] := (by rw [HDR.out]; exact List.drop_eq_nil_of_le (by rw [strs_length]; omega)); have e2 : q + 1 + 1 + (xs.length - (q + 1)) = q + 1 + 1 := (by omega); rw [HLEN.out, HSTR.out, e1, List.append_nil, e2]; simpa using h9), HBW.out.trans HB5.out⟩
                case measure => simp [intOf]; omega
              · skip
                go_wp2_with (first
                  | (at_builtin; refine wpList_accMany rfl _ _ 79 rfl 9 _ 1 16 Try.underlying79 info_str rfl (by decide) (by decide) acc0.out (Nat.le_refl _) rfl g 0 (q + 1) d (strs (xs.take (q + 1))) rfl (by rw [strs_length, List.length_take]; omega) hc1.out (strs_one _) (by omega) ?_; intro A3 d3 w3 hacc3; rw [Nat.zero_add]; rw [Nat.zero_add, List.nil_append] at hacc3; have HA3 := Lib.hid hacc3; have c13 := (hacc3.cell (p := ⟨b, off + k * 3 + 1, none⟩) hbW (by simp only; omega)).trans c1W; clear hacc3 acc0 hc1)
                  | (at_builtin; refine wpList_acc rfl _ _ 79 rfl 9 _ 1 16 Try.underlying79 info_str rfl (by decide) (by decide) HA3.out (Nat.le_refl _) rfl [.string t] rfl rfl (fun u hu => by simp at hu; subst hu; rfl) (by omega) ?_; intro A4 d4 w4 hacc4; have HA4 := Lib.hid hacc4; clear hacc4 c13)
                  | (at_builtin; refine wpList_accMany rfl _ _ 79 rfl 9 _ 1 16 Try.underlying79 info_str rfl (by decide) (by decide) HA4.out (Nat.le_refl _) rfl g (q + 1) (xs.length - (q + 1)) _ (strs (xs.drop (q + 1))) rfl (by rw [strs_length, List.length_drop]; omega) (fun i u hu => (by rw [HDR.out, List.getElem?_drop] at hu; exact HCELL.out _ (HA4.out.block g hgW hge) _ u hu)) (strs_one _) (by omega) ?_; intro A5 d5 w5 hacc5; have sl5 := hacc5.sl (lo := w.heap.size) (by omega) (by omega); have b5 := hacc5.below (B := w.heap.size) (by omega) (by omega); obtain ⟨g5, rfl, _, _, _⟩ := sl5.lt (by omega); have HS5 := Lib.hid sl5; have HB5 := Lib.hid b5; clear sl5 b5 hacc5))
                go_roundw
                case rel => exact ⟨k + 1, g5, d5, _, by omega, by go_num, (by first | (rw [HLEN.out]; done) | (rw [HLEN.out]; rfl) | (rw [HLEN.out]; congr 1; omega)), HNEW.out, HMEM.out, by rw [HLEN.out]; omega, (by rw [HLEN.out, HSTR.out]; first | exact HS5.out | (have h9 := HS5.out; simpa [Nat.add_comm] using h9)), HBW.out.trans HB5.out⟩
                case measure => simp [intOf]; omega
      · have HH := Lib.hid hh
        have hin := hasB_mem.1 hh
        have HIN := Lib.hid hin
        clear hh hin
        go_wp2_with fail
        refine (l21Has_any _ _ _ _ xs x.client _ R (by omega)).mono ?_
        rw [HH.out]
        rintro e w' ⟨rfl, rfl⟩
        have hmm : ∀ t, t ∈ xs ↔ t ∈ (l.take (k + 1)).map fun b : Bk => b.client := fun t => by
          rw [HX.out, HM.out]
          constructor
          · exact Or.inl
          · rintro (h | h)
            · exact h
            · subst h; exact (HM.out _).1 HIN.out
        have HMM := Lib.hid hmm
        clear hmm
        go_wp2
        go_roundw
        case rel => exact ⟨k + 1, g, d, xs, by omega, by go_num, rfl, HSS.out, HMM.out, by omega, HSL.out, HB.out⟩
        case measure => simp [intOf]; omega
    · obtain rfl : k = n := by omega
      have hall : l.take k = l := List.take_of_length_le (by have := hl.out; omega)
      have hxs : xs = namesB l := by
        have hm := HM.out
        rw [hall] at hm
        exact uniqB_of HSS.out hm
      go_wp2
      go_ret
      exact ⟨_, _, _, rfl, by rw [← hxs]; exact HSL.out, HB.out⟩
end Go.Proofs.Ytnlghcpidlpfkaa
