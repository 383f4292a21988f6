/- slices' IndexFunc and DeleteFunc at strings, with the predicate of DebtorsOn: what it does not hold of is left, in order. -/
import Derived.Test.YtnlghcpidlpfkaaStx
import Derived.Lib.SliceRun
set_option linter.unusedVariables false
set_option linter.unusedSimpArgs false
namespace Go.Proofs.Ytnlghcpidlpfkaa
open Go.RowKit

/-- What a predicate hands back while a row is being rewritten: all else that lay at the beginning is as it was. -/
def DelAt (w0 : World) (g g2 g3 : Nat) (del : ByteArray → Bool) : Prop := ∀ (W : World) (x : ByteArray), Only g (g + 1) w0 W → Calls Try.prog 143 #[.string x, .pointer (some ⟨g2, 0, none⟩), .pointer (some ⟨g3, 0, none⟩)] W fun e w' => e = .returned (.bool (del x)) ∧ Below W.heap.size W w'
theorem strs_get2 {xs : List ByteArray} {k : Nat} {x : ByteArray} (h : xs[k]? = some x) : (strs xs)[k]? = some (.string x) := by simp [strs, h]
theorem strs_set2 (xs : List ByteArray) (k : Nat) (x : ByteArray) : (strs xs).set k (.string x) = strs (xs.set k x) := by simp [strs, List.map_set]
theorem Sl.setCells {lo hi n c g : Nat} {t : TypeId} : ∀ (vs : List Value) (o : Nat) (w : World) (xs : List Value), Sl w lo hi t 1 (some ⟨g, 0, none⟩) n c xs → ∃ ys, Sl (w.setCells g o vs) lo hi t 1 (some ⟨g, 0, none⟩) n c ys ∧ ys.take o = xs.take o
  | [], o, w, xs, h => ⟨xs, h, rfl⟩
  | v :: r, o, w, xs, h => by
    obtain ⟨ys, h1, h2⟩ := Sl.setCells r (o + 1) (w.setCell ⟨g, o, none⟩ v) (xs.set o v) (h.set_ o v)
    refine ⟨ys, h1, ?_⟩
    have e := congrArg (List.take o) h2
    rw [List.take_take, List.take_take, Nat.min_eq_left (Nat.le_succ o)] at e
    rw [e, List.take_set_of_le (Nat.le_refl o)]
theorem Only.setCells {a : World} {g : Nat} : ∀ (vs : List Value) (o : Nat) (w : World), Only g (g + 1) a w → Only g (g + 1) a (w.setCells g o vs)
  | [], _, _, h => h
  | v :: r, o, w, h => Only.setCells r (o + 1) _ (h.setCell (p := ⟨g, o, none⟩) (Nat.le_refl g) (Nat.lt_succ_self g) v)
/-- How far the rewriting has come. -/
structure Del1 (del : ByteArray → Bool) (xs ys : List ByteArray) (i j : Nat) : Prop where
  len : ys.length = xs.length
  ij : i < j
  jn : j ≤ xs.length
  fst : ys.take i = (xs.take j).filter fun x => !del x
  rst : ys.drop j = xs.drop j
theorem Del1.start {del : ByteArray → Bool} {xs : List ByteArray} {i : Nat} {x : ByteArray} (hx : xs[i]? = some x) (hd : del x = true) (hlo : ∀ (k : Nat) (y : ByteArray), k < i → xs[k]? = some y → del y = false) : Del1 del xs xs i (i + 1) := by
  have hi : i < xs.length := (List.getElem?_eq_some_iff.1 hx).1
  refine ⟨rfl, by omega, by omega, ?_, rfl⟩
  rw [List.take_add_one, hx]
  simp only [Option.toList_some, List.filter_append, List.filter_cons, hd, Bool.not_true, List.filter_nil, List.append_nil, Bool.false_eq_true, if_false]
  rw [List.filter_eq_self.2]
  intro y hy
  obtain ⟨k, hk, rfl⟩ := List.mem_iff_getElem.1 hy
  have hk2 : k < i := by simp at hk; omega
  rw [List.getElem_take]
  rw [hlo k _ hk2 (List.getElem?_eq_getElem (by omega))]
  rfl
theorem Del1.at {del : ByteArray → Bool} {xs ys : List ByteArray} {i j : Nat} (h : Del1 del xs ys i j) (hj : j < xs.length) : ys[j]? = xs[j]? := by
  have := congrArg (fun l => l[0]?) h.rst
  simpa using this
theorem Del1.skip {del : ByteArray → Bool} {xs ys : List ByteArray} {i j : Nat} {x : ByteArray} (h : Del1 del xs ys i j) (hx : xs[j]? = some x) (hd : del x = true) : Del1 del xs ys i (j + 1) := by
  have hj : j < xs.length := (List.getElem?_eq_some_iff.1 hx).1
  have h1 := h.ij
  refine ⟨h.len, by omega, by omega, ?_, ?_⟩
  · rw [List.take_add_one, hx, h.fst]; simp [hd]
  · have := congrArg (List.drop 1) h.rst
    simpa [List.drop_drop] using this
theorem Del1.keep {del : ByteArray → Bool} {xs ys : List ByteArray} {i j : Nat} {x : ByteArray} (h : Del1 del xs ys i j) (hx : xs[j]? = some x) (hd : del x = false) : Del1 del xs (ys.set i x) (i + 1) (j + 1) := by
  have hj : j < xs.length := (List.getElem?_eq_some_iff.1 hx).1
  have h1 := h.ij
  have h2 := h.len
  refine ⟨by simp [h.len], by omega, by omega, ?_, ?_⟩
  · have hi : i < ys.length := by omega
    have e : (ys.set i x)[i]? = some x := by simp [hi]
    rw [List.take_add_one, e, List.take_set_of_le (Nat.le_refl i), List.take_add_one (l := xs), hx, h.fst]
    simp [hd]
  · have e := congrArg (List.drop 1) h.rst
    rw [List.drop_set_of_lt (by omega)]
    simpa [List.drop_drop] using e
set_option maxHeartbeats 1000000 in
set_option maxRecDepth 100000 in
theorem indexFunc_any (g n c lo hi g2 g3 : Nat) (del : ByteArray → Bool) (xs : List ByteArray) (w0 w : World) (h : Sl w lo hi 9 1 (some ⟨g, 0, none⟩) n c (strs (xs))) (hn : n ≤ 100000000) (ho : Only g (g + 1) w0 w) (hd : DelAt w0 g g2 g3 del) :
    Calls Try.prog 209 #[.slice (some ⟨g, 0, none⟩) n c, .func (.func 143) #[] #[.pointer (some ⟨g2, 0, none⟩), .pointer (some ⟨g3, 0, none⟩)]] w fun e w' => ((Sl w' lo hi 9 1 (some ⟨g, 0, none⟩) n c (strs (xs)) ∧ Only g (g + 1) w0 w') ∧ ((e = .returned (.int .i64 (-1)) ∧ ∀ x ∈ xs, del x = false) ∨ ∃ (i : Nat) (x : ByteArray), e = .returned (.int .i64 (i : Int)) ∧ xs[i]? = some x ∧ del x = true ∧ ∀ (k : Nat) (y : ByteArray), k < i → xs[k]? = some y → del y = false)) := by
  have hl : xs.length = n := by have := h.len; rw [strs_length] at this; omega
  have HD := Lib.hid hd
  have HH := Lib.hid h
  have HO0 := Lib.hid ho
  have HL := Lib.hid hl
  clear h ho hd hl
  go_enter Try.func209, Try.ntmps209
  go_wp2
  go_loopw [8] (fun p wr => ∃ j : Nat, j ≤ n ∧ p = .int .i64 (j : Int) ∧ Sl wr lo hi 9 1 (some ⟨g, 0, none⟩) n c (strs (xs)) ∧ Only g (g + 1) w0 wr ∧ ∀ (k : Nat) (y : ByteArray), k < j → xs[k]? = some y → del y = false) (fun p _ => n - (intOf p).toNat)
  case atStart => exact ⟨0, Nat.zero_le _, rfl, HH.out, HO0.out, fun k y hk => by omega⟩
  case round =>
    obtain ⟨j, hj, rfl, hsl, ho, hlo⟩ := hrel
    have HSL := Lib.hid hsl
    have HO := Lib.hid ho
    have HLO := Lib.hid hlo
    clear hsl ho hlo HH HO0
    by_cases hlt : j < n
    · obtain ⟨x, hx⟩ : ∃ x, xs[j]? = some x := ⟨_, List.getElem?_eq_getElem (by have := HL.out; omega)⟩
      have cx : wr.cell? ⟨g, j, none⟩ = some (.string x) := (HSL.out.cellAt j (by have := HL.out; rw [Nat.mul_one]; omega)).trans (strs_get2 hx)
      have HX := Lib.hid hx
      have hj0 : (0 : Int) ≤ j := by omega
      have hj1 : (j : Int) < n := by omega
      clear hx
      go_wp2_with fail
      refine (HD.out _ x HO.out).mono ?_
      rintro e w1 ⟨rfl, b1⟩
      have HO1 := Lib.hid (HO.out.then b1 HO.out.size)
      have HS1 := Lib.hid (HSL.out.on b1)
      clear b1 cx
      rcases hdx : del x with _ | _
      · have HDX := Lib.hid hdx
        go_wp2
        go_roundw
        case rel => exact ⟨j + 1, by omega, by go_num, HS1.out, HO1.out, fun k y hk hy => by
          by_cases hkj : k = j
          · subst hkj; rw [HX.out] at hy; injection hy with hy; subst hy; exact HDX.out
          · exact HLO.out k y (by omega) hy⟩
        case measure => simp [intOf]; omega
      · have HDX := Lib.hid hdx
        go_wp2
        go_ret
        exact ⟨⟨HS1.out, HO1.out⟩, Or.inr ⟨j, x, rfl, HX.out, HDX.out, HLO.out⟩⟩
    · obtain rfl : j = n := by omega
      go_wp2
      go_ret
      exact ⟨⟨HSL.out, HO.out⟩, Or.inl ⟨rfl, fun x hx => by
        obtain ⟨k, hk, rfl⟩ := List.mem_iff_getElem.1 hx
        exact HLO.out k _ (by have := HL.out; omega) (List.getElem?_eq_getElem hk)⟩⟩
set_option maxHeartbeats 1000000 in
set_option maxRecDepth 100000 in
theorem deleteFunc_any (g n c lo hi g2 g3 : Nat) (del : ByteArray → Bool) (xs : List ByteArray) (w0 w : World) (h : Sl w lo hi 9 1 (some ⟨g, 0, none⟩) n c (strs (xs))) (hn : n ≤ 100000000) (hnc : n ≤ c) (ho : Only g (g + 1) w0 w) (hd : DelAt w0 g g2 g3 del) :
    Calls Try.prog 142 #[.slice (some ⟨g, 0, none⟩) n c, .func (.func 143) #[] #[.pointer (some ⟨g2, 0, none⟩), .pointer (some ⟨g3, 0, none⟩)]] w fun e w' => ∃ m : Nat, e = .returned (.slice (some ⟨g, 0, none⟩) m c) ∧ m ≤ n ∧ Sl w' lo hi 9 1 (some ⟨g, 0, none⟩) m c (strs (xs.filter fun x => !del x)) ∧ Only g (g + 1) w0 w' := by
  have hl : xs.length = n := by have := h.len; rw [strs_length] at this; omega
  have HD := Lib.hid hd
  have HL := Lib.hid hl
  clear hl
  go_enter Try.func142, Try.ntmps142
  go_wp2_with fail
  refine (indexFunc_any g n c lo hi g2 g3 del xs w0 _ h hn ho HD.out).mono ?_
  clear h ho hd
  rintro e w1 ⟨⟨sl1, o1⟩, ⟨rfl, hno⟩ | ⟨i0, x0, rfl, hx0, hd0, hlo⟩⟩
  · have HS1 := Lib.hid sl1
    have HO1 := Lib.hid o1
    have HNO := Lib.hid hno
    clear sl1 o1 hno
    go_wp2
    go_ret
    refine ⟨n, rfl, Nat.le_refl _, ?_, HO1.out⟩
    rw [List.filter_eq_self.2 (fun x hx => by rw [HNO.out x hx]; rfl)]
    exact HS1.out
  · have HDEL := Lib.hid (Del1.start hx0 hd0 hlo)
    have HS1 := Lib.hid sl1
    have HO1 := Lib.hid o1
    have hi0 : i0 < n := by have := (List.getElem?_eq_some_iff.1 hx0).1; have := HL.out; omega
    have hne : ((i0 : Int) == -1) = false := by rw [beq_eq_false_iff_ne]; omega
    have hneq : ¬ (i0 : Int) = -1 := by omega
    clear sl1 o1 hx0 hd0 hlo
    obtain ⟨j0, hj0⟩ : ∃ x : Nat, (i0 : Int) + 1 = (x : Int) := ⟨i0 + 1, by omega⟩
    have hj0w : IntKind.i64.wrap (j0 : Int) = j0 := by rw [IntKind.wrap_i64]; omega
    have HJ0 := Lib.hid (show j0 = i0 + 1 by omega)
    go_wp2
    go_loopw [5, 6] (fun p q wr => ∃ (i j : Nat) (ys : List ByteArray), p = .int .i64 (i : Int) ∧ q = .int .i64 (j : Int) ∧ j ≤ n ∧ i < j ∧ Del1 del xs ys i j ∧ Sl wr lo hi 9 1 (some ⟨g, 0, none⟩) n c (strs (ys)) ∧ Only g (g + 1) w0 wr) (fun p q _ => n - (intOf q).toNat)
    case atStart => exact ⟨i0, j0, xs, rfl, rfl, by omega, by have := HJ0.out; omega, by rw [HJ0.out]; exact HDEL.out, HS1.out, HO1.out⟩
    case round =>
      clear HDEL HS1 HO1 hj0 hj0w HJ0 hne hneq
      obtain ⟨i, j, ys, rfl, rfl, hjn, hij, hdel, hsl, ho⟩ := hrel
      have HSL := Lib.hid hsl
      have HO := Lib.hid ho
      have HDEL := Lib.hid hdel
      clear hsl ho hdel
      by_cases hlt : j < n
      · have hjx : j < xs.length := by have := HL.out; omega
        obtain ⟨x, hx⟩ : ∃ x, xs[j]? = some x := ⟨_, List.getElem?_eq_getElem hjx⟩
        have hyx : ys[j]? = some x := (HDEL.out.at hjx).trans hx
        have cx : wr.cell? ⟨g, j, none⟩ = some (.string x) := (HSL.out.cellAt j (by rw [Nat.mul_one]; omega)).trans (strs_get2 hyx)
        have HX := Lib.hid hx
        obtain ⟨j', hj'⟩ : ∃ x : Nat, (j : Int) + 1 = (x : Int) := ⟨j + 1, by omega⟩
        have hj'w : IntKind.i64.wrap (j' : Int) = j' := by rw [IntKind.wrap_i64]; omega
        have HJ := Lib.hid (show j' = j + 1 by omega)
        have hj0 : (0 : Int) ≤ j := by omega
        have hj1 : (j : Int) < n := by omega
        have hi1 : (0 : Int) ≤ i := by omega
        have hi2 : (i : Int) < n := by omega
        clear hx hyx hjx
        go_wp2_with fail
        refine (HD.out _ x HO.out).mono ?_
        rintro e w1 ⟨rfl, b1⟩
        have HO1 := Lib.hid (HO.out.then b1 HO.out.size)
        have HS1 := Lib.hid (HSL.out.on b1)
        clear b1 cx
        rcases hdx : del x with _ | _
        · have hyl := HDEL.out.len
          have ci : ∃ u, w1.cell? ⟨g, i, none⟩ = some u := by
            have hil : i < ys.length := by have := HL.out; omega
            exact ⟨_, (HS1.out.cellAt i (by rw [Nat.mul_one]; omega)).trans (strs_get2 (List.getElem?_eq_getElem hil))⟩
          obtain ⟨u, ci⟩ := ci
          have fi := HS1.out.frozenAt i
          obtain ⟨i', hi'⟩ : ∃ x : Nat, (i : Int) + 1 = (x : Int) := ⟨i + 1, by omega⟩
          have hi'w : IntKind.i64.wrap (i' : Int) = i' := by rw [IntKind.wrap_i64]; omega
          have HI := Lib.hid (show i' = i + 1 by omega)
          have HK := Lib.hid (HDEL.out.keep HX.out hdx)
          clear hyl
          go_wp2
          go_roundw
          case rel => exact ⟨i', j', ys.set i x, rfl, rfl, by have := HJ.out; omega, by have := HJ.out; have := HI.out; omega, by rw [HI.out, HJ.out]; exact HK.out, by rw [← strs_set2]; exact HS1.out.set_ i (.string x), HO1.out.setCell (p := ⟨g, i, none⟩) (Nat.le_refl g) (Nat.lt_succ_self g) _⟩
          case measure => have := HJ.out; simp [intOf]; omega
        · have HK := Lib.hid (HDEL.out.skip HX.out hdx)
          go_wp2
          go_roundw
          case rel => exact ⟨i, j', ys, rfl, rfl, by have := HJ.out; omega, by have := HJ.out; omega, by rw [HJ.out]; exact HK.out, HS1.out, HO1.out⟩
          case measure => have := HJ.out; simp [intOf]; omega
      · obtain rfl : j = n := by omega
        have hcl : ∀ ty, (Builtin.clear_ #[79] ty #[.slice (some ⟨g, i, none⟩) (j - i) (c - i)]).run Try.prog wr = .ok (.tuple #[]) (wr.setCells g i (List.replicate (j - i) (.string ⟨#[]⟩))) :=
          fun ty => Lib.run_clear_slice (P := Try.prog) wr 79 9 ty (.string ⟨#[]⟩) Try.underlying79 (fun w => by kernel_rfl) rfl rfl g i (j - i) (c - i) (by omega) (fun k hk => by
            have hkl : i + k < ys.length := by have := HL.out; have := HDEL.out.len; omega
            rw [(HSL.out.cellAt (i + k) (by rw [Nat.mul_one]; omega)).trans (strs_get2 (List.getElem?_eq_getElem hkl))]
            rfl) (fun k hk => HSL.out.frozenAt (i + k))
        have hi1 : (0 : Int) ≤ i := by omega
        have hi2 : (i : Int) ≤ j := by omega
        have hi3 : (i : Int) ≤ c := by omega
        have hi4 : i ≤ j := by omega
        have hi5 : i ≤ c := by omega
        obtain ⟨zs, hz1, hz2⟩ := HSL.out.setCells (List.replicate (j - i) (.string ⟨#[]⟩)) i
        have HZ := Lib.hid (show Sl (wr.setCells g i (List.replicate (j - i) (.string ⟨#[]⟩))) lo hi 9 1 (some ⟨g, 0, none⟩) i c (strs (xs.filter fun x => !del x)) by
          have q := hz1.cut hi4
          rw [hz2, show (strs ys).take i = strs (ys.take i) by simp [strs, List.map_take], HDEL.out.fst, List.take_of_length_le (by have := HL.out; omega)] at q
          exact q)
        have HOZ := Lib.hid (HO.out.setCells (List.replicate (j - i) (.string ⟨#[]⟩)) i)
        clear hz1 hz2
        generalize hwz : wr.setCells g i (List.replicate (j - i) (.string ⟨#[]⟩)) = wz at *
        clear hwz
        go_wp2
        go_ret
        exact ⟨i, rfl, by omega, HZ.out, HOZ.out⟩
end Go.Proofs.Ytnlghcpidlpfkaa
