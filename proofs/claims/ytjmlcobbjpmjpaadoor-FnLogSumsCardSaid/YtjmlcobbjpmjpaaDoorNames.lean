/- NamesIn, both sides. -/
import Derived.Test.YtjmlcobbjpmjpaaDoorLogB
import Derived.Test.YtjmlcobbjpmjpaaDoorSpl
import Derived.Test.YtjmlcobbjpmjpaaDoorStrS
import Derived.IntWalk
set_option linter.unusedVariables false
set_option linter.unusedSimpArgs false
namespace Go.Proofs.YtjmlcobbjpmjpaaDoor
open Go.RowKit Go.Lib

def hasW (xs : List ByteArray) (t : ByteArray) : Bool := xs.any (fun y => t.toList == y.toList)
theorem hasW_nil (t : ByteArray) : hasW [] t = false := rfl
theorem beq_sw (a b : ByteArray) : (a.toList == b.toList) = (b.toList == a.toList) := by
  rcases h : (b.toList == a.toList) with _ | _
  · rw [beq_eq_false_iff_ne] at h ⊢; exact fun e => h e.symm
  · rw [beq_iff_eq] at h ⊢; exact h.symm
def namesL (l : List En) : Nat → List ByteArray
  | 0 => []
  | k + 1 => match l[k]? with
    | none => namesL l k
    | some x => if hasW (namesL l k) x.what = true then namesL l k else namesL l k ++ [x.what]
theorem namesL_has {l : List En} {k : Nat} {x : En} (h : l[k]? = some x) (h2 : hasW (namesL l k) x.what = true) : namesL l (k + 1) = namesL l k := by simp [namesL, h, h2]
theorem namesL_new {l : List En} {k : Nat} {x : En} (h : l[k]? = some x) (h2 : hasW (namesL l k) x.what = false) : namesL l (k + 1) = namesL l k ++ [x.what] := by simp [namesL, h, h2]
theorem namesL_len (l : List En) : ∀ k, (namesL l k).length ≤ k
  | 0 => by simp [namesL]
  | k + 1 => by
    have := namesL_len l k
    rw [namesL]
    split
    · omega
    · split
      · omega
      · simp; omega
def namesF (s : ByteArray) : List ByteArray := if codeF s = 0 then namesL (logR s).list (logR s).list.length else []
theorem namesF_ok {s : ByteArray} (h : codeF s = 0) : namesF s = namesL (logR s).list (logR s).list.length := by simp only [namesF, h, if_true]
theorem namesF_bad {s : ByteArray} (h : codeF s ≠ 0) : namesF s = [] := by simp only [namesF, h, if_false]
theorem cntNamesIn_len {s : ByteArray} {m : Nat} (h : (strs (namesF s)).length = m * 1) : m ≤ 1048576 := by
  rw [strs_length] at h
  by_cases hc : codeF s = 0
  · rw [namesF_ok hc] at h
    have h1 := namesL_len (logR s).list (logR s).list.length
    have h2 := logR_len hc
    omega
  · rw [namesF_bad hc] at h
    simp at h
    omega
theorem hasW_step {xs : List ByteArray} {t y : ByteArray} {q : Nat} (h : xs[q]? = some y) : hasW (xs.take (q + 1)) t = (hasW (xs.take q) t || (y.toList == t.toList)) := by
  obtain ⟨hq, rfl⟩ := List.getElem?_eq_some_iff.1 h
  rw [List.take_succ_eq_append_getElem hq, hasW, hasW, List.any_append, beq_sw]
  simp
theorem strv_at {w : World} {B n k : Nat} {A : Option Addr} {l : List ByteArray} (h : Reads w B 1 A n (strs l)) (hk : k < n) :
    ∃ (x : ByteArray) (b off : Nat), l[k]? = some x ∧ A = some ⟨b, off, none⟩ ∧ b < B ∧ w.cell? ⟨b, off + k, none⟩ = some (.string x) := by
  obtain ⟨b, off, rfl, hb, hcell⟩ := h.at_ (by omega)
  have hl : l.length = n := by have := h.1; rw [strs_length] at this; omega
  have he : l[k]? = some l[k] := List.getElem?_eq_getElem (by omega)
  exact ⟨_, b, off, he, rfl, hb, hcell _ _ (strs_get he)⟩
set_option maxHeartbeats 4000000 in
set_option maxRecDepth 100000 in
theorem slicesIndex_any (A : Option Addr) (n c B : Nat) (l : List ByteArray) (t : ByteArray) (w : World) (h : Reads w B 1 A n (strs l)) (hn : n ≤ 1048576) :
    Calls Tryd.prog 93 #[.slice A n c, .string t] w fun e w' => e = .returned (.int .i64 (idxI (fun y => t.toList == y.toList) l)) ∧ w = w' := by
  have hl := Lib.hid (show l.length = n by have := h.1; rw [strs_length] at this; omega)
  go_enter Tryd.func93, Tryd.ntmps93
  go_wp2
  go_loop [8] (fun i => ∃ k : Nat, k ≤ n ∧ i = .int .i64 k ∧ AllTo (fun y : ByteArray => !(t.toList == y.toList)) l k) (fun i => n - (RowKit.intOf i).toNat)
  case atStart => exact ⟨0, Nat.zero_le _, rfl, AllTo.zero _ _⟩
  case round =>
    obtain ⟨k, hk, rfl, hall⟩ := hrel
    have HA := Lib.hid hall
    clear hall
    by_cases hlt : k < n
    · obtain ⟨x, b, off, he, rfl, hb, c0⟩ := strv_at h hlt
      have HE := Lib.hid he
      have hi0 : (0 : Int) ≤ k := by omega
      have hi1 : (k : Int) < n := by omega
      clear he
      rcases hx : (t.toList == x.toList) with _ | _
      · have HX := Lib.hid (show (!(t.toList == x.toList)) = true by rw [hx]; rfl)
        go_wp2
        go_round
        case rel => exact ⟨k + 1, by omega, by go_num, HA.out.step HE.out HX.out⟩
        case measure => simp [RowKit.intOf]; omega
      · have HO := Lib.hid (idxI_found (p := fun y : ByteArray => t.toList == y.toList) HE.out hx HA.out)
        go_wp2
        go_ret
        exact ⟨ret_int HO.out.symm, rfl⟩
    · obtain rfl : k = n := by omega
      have HO := Lib.hid (idxI_none (p := fun y : ByteArray => t.toList == y.toList) HA.out hl.out)
      have hkk : ¬ ((k : Int) < (k : Int)) := by omega
      go_wp2
      go_ret
      exact ⟨ret_int HO.out.symm, rfl⟩
set_option maxHeartbeats 4000000 in
set_option maxRecDepth 100000 in
theorem slicesContains_any (A : Option Addr) (n c B : Nat) (l : List ByteArray) (t : ByteArray) (w : World) (h : Reads w B 1 A n (strs l)) (hn : n ≤ 1048576) :
    Calls Tryd.prog 51 #[.slice A n c, .string t] w fun e w' => e = .returned (.bool (hasW l t)) ∧ w = w' := by
  have HO := Lib.hid (show decide (0 ≤ idxI (fun y : ByteArray => t.toList == y.toList) l) = hasW l t from idxI_nonneg _ l)
  have HC := Lib.hid (slicesIndex_any A n c B l t w h hn)
  clear h
  go_enter Tryd.func51, Tryd.ntmps51
  go_wp2_with fail
  refine HC.out.mono ?_
  rintro e w1 ⟨rfl, rfl⟩
  go_wp2
  go_ret
  exact ⟨ret_bool HO.out, rfl⟩
set_option maxHeartbeats 4000000 in
set_option maxRecDepth 100000 in
theorem specNamesIn_any (s : ByteArray) (w : World) (hs : s.size ≤ 1048576) :
    Calls Tryd.prog 8 #[.string s] w fun e w' => ∃ A m d, e = .returned (.tuple #[.slice A m d, .int .i64 (codeF s)]) ∧ Sl w' w.heap.size w'.heap.size 9 1 A m d (strs (namesF s)) ∧ Below w.heap.size w w' := by
  by_cases hc : codeF s = 0
  · have HO := Lib.hid (namesF_ok hc)
    have hlen := logR_len hc
    have HC0 := Lib.hid hc
    go_enter Tryd.func8, Tryd.ntmps8
    go_wp2_with fail
    refine (l27Code_any s _ hs).mono ?_
    rintro e w1 ⟨g, rfl, hrec, b1⟩
    obtain ⟨A, n, d, y1, hsl, hne, hlg⟩ := hrec hc
    rw [hc]
    have hln : (logR s).list.length = n := by have := hsl.len; rw [ens_length] at this; omega
    have q3 : w1.cell? ⟨g, 3, none⟩ = some (.slice A n d) := y1.cellAt 3 (by simp)
    have R1 := hsl.reads (Nat.le_refl _)
    have HB := Lib.hid b1
    have hz1 := b1.size
    have acc0 := Acc.made w1 9 1
    rw [hln] at HO hlen
    obtain ⟨l, hl⟩ : ∃ y, (logR s).list = y := ⟨_, rfl⟩
    rw [hl] at R1 HO
    clear hrec y1 hsl hne b1 hc hl hln
    go_wp2
    go_loopw [6, 7] (fun out i wr => ∃ (k : Nat) (A' : Option Addr) (p d' : Nat), k ≤ n ∧ i = .int .i64 k ∧ out = .slice A' p d' ∧ p = (namesL l k).length ∧ Acc w1.heap.size w1.heap.size 9 1 w1 wr A' p d' (strs (namesL l k))) (fun _ i _ => n - (RowKit.intOf i).toNat)
    case atStart => exact ⟨0, _, _, _, Nat.zero_le _, rfl, rfl, rfl, acc0⟩
    case round =>
      obtain ⟨k, A', p, d', hk, rfl, rfl, hp, hacc⟩ := hrel
      have HA := Lib.hid hacc
      have hvl := namesL_len l k
      have hpl : p ≤ 4000 := by omega
      clear acc0 hacc
      have hbel := HA.out.below (B := w1.heap.size) (Nat.le_refl _) (Nat.le_refl _)
      have q3x := cell_on hbel q3
      by_cases hlt : k < n
      · obtain ⟨x, b, off, he, rfl, hb, c0, c1, c2⟩ := en_at (R1.on (Nat.le_refl _) hbel) hlt
        have HH := Lib.hid (fun h2 => namesL_has he h2)
        have HN := Lib.hid (fun h2 => namesL_new he h2)
        have hi0 : (0 : Int) ≤ k := by omega
        have hi1 : (k : Int) < n := by omega
        have RO := (HA.out.sl (lo := w1.heap.size) (Nat.le_refl _) (Nat.le_refl _)).reads (Nat.le_refl _)
        obtain ⟨xs, hxs⟩ : ∃ y, namesL l k = y := ⟨_, rfl⟩
        rw [hxs] at RO HA HH HN hp hvl
        have HXS := Lib.hid hxs
        clear he hbel c0 c2 hxs hvl
        go_wp2
        rename World => wo
        go_loopw [8, 9] (fun f i wi => ∃ q : Nat, q ≤ p ∧ i = .int .i64 q ∧ f = .bool (hasW (xs.take q) x.what) ∧ Below wo.heap.size wo wi) (fun _ i _ => p - (RowKit.intOf i).toNat)
        case atStart => exact ⟨0, Nat.zero_le _, rfl, by simp [hasW], Below.refl _ _⟩
        case round =>
          obtain ⟨q, hq, rfl, rfl, hin⟩ := hrel
          have HI := Lib.hid hin
          by_cases hqp : q < p
          · obtain ⟨y, ob, oo, hy, rfl, hob, z0⟩ := strv_at (RO.on (Nat.le_refl _) hin) hqp
            have hst := hasW_step (t := x.what) hy
            have hj0 : (0 : Int) ≤ q := by omega
            have hj1 : (q : Int) < p := by omega
            have hpi : p ≤ 4000 := hpl
            clear hin hy
            rcases hf : hasW (xs.take q) x.what with _ | _
            · rw [hf, Bool.false_or] at hst
              have HSTEP := Lib.hid hst
              clear hst hf
              go_wp2_with fail
              refine wp_region_held_drew (S := (fun W => Below wo.heap.size wo W ∧ W.cell? ⟨ob, oo + q, none⟩ = some (.string y) ∧ W.cell? ⟨g, 3, none⟩ = some (.slice (some ⟨b, off, none⟩) n d) ∧ W.cell? ⟨b, off + k * 3 + 1, none⟩ = some (.string x.what))) (by kernel_rfl) ?_ (fun hHeld => ?_)
              · exact ⟨HI.out.drew, z0, (cell_on HI.out q3x : wr.cell? _ = _), (cell_on HI.out c1 : wr.cell? _ = _)⟩
              refine wpAnyH_take (i := 0) (v := ?_) rfl (by kernel_rfl) (by kernel_rfl) (by kernel_rfl) (fun _ _ _ h => h) (Or.inl ⟨by kernel_rfl, ?_⟩) (by assumption) ?_
              rotate_left 1
              · intro w hSw; (try dsimp only at hSw); go_simp; try with_reducible rfl
              try simp only [Act.put, List.getElem_toArray, List.getElem_cons_succ, List.getElem_cons_zero, List.setIfInBounds_toArray, List.set_cons_zero, List.set_cons_succ]
              refine wpAnyH_take (i := 1) (v := ?_) rfl (by kernel_rfl) (by kernel_rfl) (by kernel_rfl) (fun _ _ _ h => h) (Or.inl ⟨by kernel_rfl, ?_⟩) (by assumption) ?_
              rotate_left 1
              · intro w hSw; (try dsimp only at hSw); go_simp; try with_reducible rfl
              try simp only [Act.put, List.getElem_toArray, List.getElem_cons_succ, List.getElem_cons_zero, List.setIfInBounds_toArray, List.set_cons_zero, List.set_cons_succ]
              refine wpAnyH_take (i := 2) (v := ?_) rfl (by kernel_rfl) (by kernel_rfl) (by kernel_rfl) (fun _ _ _ h => h) (Or.inl ⟨by kernel_rfl, ?_⟩) (by assumption) ?_
              rotate_left 1
              · intro w hSw; (try dsimp only at hSw); go_simp; try with_reducible rfl
              try simp only [Act.put, List.getElem_toArray, List.getElem_cons_succ, List.getElem_cons_zero, List.setIfInBounds_toArray, List.set_cons_zero, List.set_cons_succ]
              refine wpAnyH_take (i := 3) (v := ?_) rfl (by kernel_rfl) (by kernel_rfl) (by kernel_rfl) (fun _ _ _ h => h) (Or.inl ⟨by kernel_rfl, ?_⟩) (by assumption) ?_
              rotate_left 1
              · intro w hSw; (try dsimp only at hSw); go_simp; try with_reducible rfl
              try simp only [Act.put, List.getElem_toArray, List.getElem_cons_succ, List.getElem_cons_zero, List.setIfInBounds_toArray, List.set_cons_zero, List.set_cons_succ]
              refine wpAnyH_take (i := 4) (v := ?_) rfl (by kernel_rfl) (by kernel_rfl) (by kernel_rfl) (fun _ _ _ h => h) (Or.inl ⟨by kernel_rfl, ?_⟩) (by assumption) ?_
              rotate_left 1
              · intro w hSw; (try dsimp only at hSw); go_simp; try with_reducible rfl
              try simp only [Act.put, List.getElem_toArray, List.getElem_cons_succ, List.getElem_cons_zero, List.setIfInBounds_toArray, List.set_cons_zero, List.set_cons_succ]
              refine wpAnyH_take (i := 5) (v := ?_) rfl (by kernel_rfl) (by kernel_rfl) (by kernel_rfl) (fun _ _ _ h => h) (Or.inl ⟨by kernel_rfl, ?_⟩) (by assumption) ?_
              rotate_left 1
              · intro w hSw; (try dsimp only at hSw); (have e0 := hSw.2.1); (have e1 := hSw.2.2.1); (have e2 := hSw.2.2.2); go_simp; try with_reducible rfl
              try simp only [Act.put, List.getElem_toArray, List.getElem_cons_succ, List.getElem_cons_zero, List.setIfInBounds_toArray, List.set_cons_zero, List.set_cons_succ]
              refine wpAnyH_take (i := 6) (v := ?_) rfl (by kernel_rfl) (by kernel_rfl) (by kernel_rfl) (fun _ _ _ h => h) (Or.inl ⟨by kernel_rfl, ?_⟩) (by assumption) ?_
              rotate_left 1
              · intro w hSw; (try dsimp only at hSw); go_simp; try with_reducible rfl
              try simp only [Act.put, List.getElem_toArray, List.getElem_cons_succ, List.getElem_cons_zero, List.setIfInBounds_toArray, List.set_cons_zero, List.set_cons_succ]
              refine wpAnyH_take (i := 7) (v := ?_) rfl (by kernel_rfl) (by kernel_rfl) (by kernel_rfl) (fun _ _ _ h => h) (Or.inl ⟨by kernel_rfl, ?_⟩) (by assumption) ?_
              rotate_left 1
              · intro w hSw; (try dsimp only at hSw); go_simp; try with_reducible rfl
              try simp only [Act.put, List.getElem_toArray, List.getElem_cons_succ, List.getElem_cons_zero, List.setIfInBounds_toArray, List.set_cons_zero, List.set_cons_succ]
              refine wpAnyH_take (i := 8) (v := ?_) rfl (by kernel_rfl) (by kernel_rfl) (by kernel_rfl) (fun _ _ _ h => h) (Or.inl ⟨by kernel_rfl, ?_⟩) (by assumption) ?_
              rotate_left 1
              · intro w hSw; (try dsimp only at hSw); go_simp; try with_reducible rfl
              try simp only [Act.put, List.getElem_toArray, List.getElem_cons_succ, List.getElem_cons_zero, List.setIfInBounds_toArray, List.set_cons_zero, List.set_cons_succ]
              refine wpAnyH_take (i := 9) (v := ?_) rfl (by kernel_rfl) (by kernel_rfl) (by kernel_rfl) (fun _ _ _ h => h) (Or.inl ⟨by kernel_rfl, ?_⟩) (by assumption) ?_
              rotate_left 1
              · intro w hSw; (try dsimp only at hSw); (have e0 := hSw.2.1); (have e1 := hSw.2.2.1); (have e2 := hSw.2.2.2); go_simp; try with_reducible rfl
              try simp only [Act.put, List.getElem_toArray, List.getElem_cons_succ, List.getElem_cons_zero, List.setIfInBounds_toArray, List.set_cons_zero, List.set_cons_succ]
              refine wpAnyH_take (i := 10) (v := ?_) rfl (by kernel_rfl) (by kernel_rfl) (by kernel_rfl) (fun _ _ _ h => h) (Or.inl ⟨by kernel_rfl, ?_⟩) (by assumption) ?_
              rotate_left 1
              · intro w hSw; (try dsimp only at hSw); go_simp; try with_reducible rfl
              try simp only [Act.put, List.getElem_toArray, List.getElem_cons_succ, List.getElem_cons_zero, List.setIfInBounds_toArray, List.set_cons_zero, List.set_cons_succ]
              refine wpAnyH_take (i := 11) (v := ?_) rfl (by kernel_rfl) (by kernel_rfl) (by kernel_rfl) (fun _ _ _ h => h) (Or.inl ⟨by kernel_rfl, ?_⟩) (by assumption) ?_
              rotate_left 1
              · intro w hSw; (try dsimp only at hSw); go_simp; try with_reducible rfl
              try simp only [Act.put, List.getElem_toArray, List.getElem_cons_succ, List.getElem_cons_zero, List.setIfInBounds_toArray, List.set_cons_zero, List.set_cons_succ]
              refine wpAnyH_take (i := 12) (v := ?_) rfl (by kernel_rfl) (by kernel_rfl) (by kernel_rfl) (fun _ _ _ h => h) (Or.inl ⟨by kernel_rfl, ?_⟩) (by assumption) ?_
              rotate_left 1
              · intro w hSw; (try dsimp only at hSw); go_simp; try with_reducible rfl
              try simp only [Act.put, List.getElem_toArray, List.getElem_cons_succ, List.getElem_cons_zero, List.setIfInBounds_toArray, List.set_cons_zero, List.set_cons_succ]
              refine wpAnyH_take (i := 13) (v := ?_) rfl (by kernel_rfl) (by kernel_rfl) (by kernel_rfl) (fun _ _ _ h => h) (Or.inl ⟨by kernel_rfl, ?_⟩) (by assumption) ?_
              rotate_left 1
              · intro w hSw; (try dsimp only at hSw); (have e0 := hSw.2.1); (have e1 := hSw.2.2.1); (have e2 := hSw.2.2.2); go_simp; try with_reducible rfl
              try simp only [Act.put, List.getElem_toArray, List.getElem_cons_succ, List.getElem_cons_zero, List.setIfInBounds_toArray, List.set_cons_zero, List.set_cons_succ]
              refine wpAnyH_take (i := 14) (v := ?_) rfl (by kernel_rfl) (by kernel_rfl) (by kernel_rfl) (fun _ _ _ h => h) (Or.inl ⟨by kernel_rfl, ?_⟩) (by assumption) ?_
              rotate_left 1
              · intro w hSw; (try dsimp only at hSw); go_simp; try with_reducible rfl
              try simp only [Act.put, List.getElem_toArray, List.getElem_cons_succ, List.getElem_cons_zero, List.setIfInBounds_toArray, List.set_cons_zero, List.set_cons_succ]
              refine wpAnyH_take (i := 15) (v := ?_) rfl (by kernel_rfl) (by kernel_rfl) (by kernel_rfl) (fun _ _ _ h => h) (Or.inl ⟨by kernel_rfl, ?_⟩) (by assumption) ?_
              rotate_left 1
              · intro w hSw; (try dsimp only at hSw); go_simp; try with_reducible rfl
              try simp only [Act.put, List.getElem_toArray, List.getElem_cons_succ, List.getElem_cons_zero, List.setIfInBounds_toArray, List.set_cons_zero, List.set_cons_succ]
              refine wpAnyH_take (i := 16) (v := ?_) rfl (by kernel_rfl) (by kernel_rfl) (by kernel_rfl) (fun _ _ _ h => h) (Or.inl ⟨by kernel_rfl, ?_⟩) (by assumption) ?_
              rotate_left 1
              · intro w hSw; (try dsimp only at hSw); go_simp; try with_reducible rfl
              try simp only [Act.put, List.getElem_toArray, List.getElem_cons_succ, List.getElem_cons_zero, List.setIfInBounds_toArray, List.set_cons_zero, List.set_cons_succ]
              refine wpAnyH_done (by kernel_rfl) ?_ _
              have HI2 := Lib.hid hHeld.1
              clear hHeld z0
              go_wp2
              go_roundw
              case rel => exact ⟨q + 1, by omega, by go_num, by rw [HSTEP.out], HI2.out⟩
              case measure => simp [RowKit.intOf]; omega
            · rw [hf, Bool.true_or] at hst
              have HSTEP := Lib.hid hst
              clear hst hf
              go_wp2_with fail
              refine wp_region_held_drew (S := (fun W => Below wo.heap.size wo W ∧ W.cell? ⟨ob, oo + q, none⟩ = some (.string y) ∧ W.cell? ⟨g, 3, none⟩ = some (.slice (some ⟨b, off, none⟩) n d) ∧ W.cell? ⟨b, off + k * 3 + 1, none⟩ = some (.string x.what))) (by kernel_rfl) ?_ (fun hHeld => ?_)
              · exact ⟨HI.out.drew, z0, (cell_on HI.out q3x : wr.cell? _ = _), (cell_on HI.out c1 : wr.cell? _ = _)⟩
              refine wpAnyH_take (i := 0) (v := ?_) rfl (by kernel_rfl) (by kernel_rfl) (by kernel_rfl) (fun _ _ _ h => h) (Or.inl ⟨by kernel_rfl, ?_⟩) (by assumption) ?_
              rotate_left 1
              · intro w hSw; (try dsimp only at hSw); go_simp; try with_reducible rfl
              try simp only [Act.put, List.getElem_toArray, List.getElem_cons_succ, List.getElem_cons_zero, List.setIfInBounds_toArray, List.set_cons_zero, List.set_cons_succ]
              refine wpAnyH_take (i := 1) (v := ?_) rfl (by kernel_rfl) (by kernel_rfl) (by kernel_rfl) (fun _ _ _ h => h) (Or.inl ⟨by kernel_rfl, ?_⟩) (by assumption) ?_
              rotate_left 1
              · intro w hSw; (try dsimp only at hSw); go_simp; try with_reducible rfl
              try simp only [Act.put, List.getElem_toArray, List.getElem_cons_succ, List.getElem_cons_zero, List.setIfInBounds_toArray, List.set_cons_zero, List.set_cons_succ]
              refine wpAnyH_take (i := 2) (v := undef) rfl (by kernel_rfl) (by kernel_rfl) (by kernel_rfl) (fun _ _ _ h => h) (Or.inr ⟨by kernel_rfl, rfl⟩) (by assumption) ?_
              try simp only [Act.put, List.getElem_toArray, List.getElem_cons_succ, List.getElem_cons_zero, List.setIfInBounds_toArray, List.set_cons_zero, List.set_cons_succ]
              refine wpAnyH_take (i := 3) (v := undef) rfl (by kernel_rfl) (by kernel_rfl) (by kernel_rfl) (fun _ _ _ h => h) (Or.inr ⟨by kernel_rfl, rfl⟩) (by assumption) ?_
              try simp only [Act.put, List.getElem_toArray, List.getElem_cons_succ, List.getElem_cons_zero, List.setIfInBounds_toArray, List.set_cons_zero, List.set_cons_succ]
              refine wpAnyH_take (i := 4) (v := undef) rfl (by kernel_rfl) (by kernel_rfl) (by kernel_rfl) (fun _ _ _ h => h) (Or.inr ⟨by kernel_rfl, rfl⟩) (by assumption) ?_
              try simp only [Act.put, List.getElem_toArray, List.getElem_cons_succ, List.getElem_cons_zero, List.setIfInBounds_toArray, List.set_cons_zero, List.set_cons_succ]
              refine wpAnyH_take (i := 5) (v := undef) rfl (by kernel_rfl) (by kernel_rfl) (by kernel_rfl) (fun _ _ _ h => h) (Or.inr ⟨by kernel_rfl, rfl⟩) (by assumption) ?_
              try simp only [Act.put, List.getElem_toArray, List.getElem_cons_succ, List.getElem_cons_zero, List.setIfInBounds_toArray, List.set_cons_zero, List.set_cons_succ]
              refine wpAnyH_take (i := 6) (v := undef) rfl (by kernel_rfl) (by kernel_rfl) (by kernel_rfl) (fun _ _ _ h => h) (Or.inr ⟨by kernel_rfl, rfl⟩) (by assumption) ?_
              try simp only [Act.put, List.getElem_toArray, List.getElem_cons_succ, List.getElem_cons_zero, List.setIfInBounds_toArray, List.set_cons_zero, List.set_cons_succ]
              refine wpAnyH_take (i := 7) (v := undef) rfl (by kernel_rfl) (by kernel_rfl) (by kernel_rfl) (fun _ _ _ h => h) (Or.inr ⟨by kernel_rfl, rfl⟩) (by assumption) ?_
              try simp only [Act.put, List.getElem_toArray, List.getElem_cons_succ, List.getElem_cons_zero, List.setIfInBounds_toArray, List.set_cons_zero, List.set_cons_succ]
              refine wpAnyH_take (i := 8) (v := undef) rfl (by kernel_rfl) (by kernel_rfl) (by kernel_rfl) (fun _ _ _ h => h) (Or.inr ⟨by kernel_rfl, rfl⟩) (by assumption) ?_
              try simp only [Act.put, List.getElem_toArray, List.getElem_cons_succ, List.getElem_cons_zero, List.setIfInBounds_toArray, List.set_cons_zero, List.set_cons_succ]
              refine wpAnyH_take (i := 9) (v := undef) rfl (by kernel_rfl) (by kernel_rfl) (by kernel_rfl) (fun _ _ _ h => h) (Or.inr ⟨by kernel_rfl, rfl⟩) (by assumption) ?_
              try simp only [Act.put, List.getElem_toArray, List.getElem_cons_succ, List.getElem_cons_zero, List.setIfInBounds_toArray, List.set_cons_zero, List.set_cons_succ]
              refine wpAnyH_take (i := 10) (v := undef) rfl (by kernel_rfl) (by kernel_rfl) (by kernel_rfl) (fun _ _ _ h => h) (Or.inr ⟨by kernel_rfl, rfl⟩) (by assumption) ?_
              try simp only [Act.put, List.getElem_toArray, List.getElem_cons_succ, List.getElem_cons_zero, List.setIfInBounds_toArray, List.set_cons_zero, List.set_cons_succ]
              refine wpAnyH_take (i := 11) (v := undef) rfl (by kernel_rfl) (by kernel_rfl) (by kernel_rfl) (fun _ _ _ h => h) (Or.inr ⟨by kernel_rfl, rfl⟩) (by assumption) ?_
              try simp only [Act.put, List.getElem_toArray, List.getElem_cons_succ, List.getElem_cons_zero, List.setIfInBounds_toArray, List.set_cons_zero, List.set_cons_succ]
              refine wpAnyH_take (i := 12) (v := undef) rfl (by kernel_rfl) (by kernel_rfl) (by kernel_rfl) (fun _ _ _ h => h) (Or.inr ⟨by kernel_rfl, rfl⟩) (by assumption) ?_
              try simp only [Act.put, List.getElem_toArray, List.getElem_cons_succ, List.getElem_cons_zero, List.setIfInBounds_toArray, List.set_cons_zero, List.set_cons_succ]
              refine wpAnyH_take (i := 13) (v := undef) rfl (by kernel_rfl) (by kernel_rfl) (by kernel_rfl) (fun _ _ _ h => h) (Or.inr ⟨by kernel_rfl, rfl⟩) (by assumption) ?_
              try simp only [Act.put, List.getElem_toArray, List.getElem_cons_succ, List.getElem_cons_zero, List.setIfInBounds_toArray, List.set_cons_zero, List.set_cons_succ]
              refine wpAnyH_take (i := 14) (v := undef) rfl (by kernel_rfl) (by kernel_rfl) (by kernel_rfl) (fun _ _ _ h => h) (Or.inr ⟨by kernel_rfl, rfl⟩) (by assumption) ?_
              try simp only [Act.put, List.getElem_toArray, List.getElem_cons_succ, List.getElem_cons_zero, List.setIfInBounds_toArray, List.set_cons_zero, List.set_cons_succ]
              refine wpAnyH_take (i := 15) (v := ?_) rfl (by kernel_rfl) (by kernel_rfl) (by kernel_rfl) (fun _ _ _ h => h) (Or.inl ⟨by kernel_rfl, ?_⟩) (by assumption) ?_
              rotate_left 1
              · intro w hSw; (try dsimp only at hSw); go_simp; try with_reducible rfl
              try simp only [Act.put, List.getElem_toArray, List.getElem_cons_succ, List.getElem_cons_zero, List.setIfInBounds_toArray, List.set_cons_zero, List.set_cons_succ]
              refine wpAnyH_take (i := 16) (v := ?_) rfl (by kernel_rfl) (by kernel_rfl) (by kernel_rfl) (fun _ _ _ h => h) (Or.inl ⟨by kernel_rfl, ?_⟩) (by assumption) ?_
              rotate_left 1
              · intro w hSw; (try dsimp only at hSw); go_simp; try with_reducible rfl
              try simp only [Act.put, List.getElem_toArray, List.getElem_cons_succ, List.getElem_cons_zero, List.setIfInBounds_toArray, List.set_cons_zero, List.set_cons_succ]
              refine wpAnyH_done (by kernel_rfl) ?_ _
              have HI2 := Lib.hid hHeld.1
              clear hHeld z0
              go_wp2
              go_roundw
              case rel => exact ⟨q + 1, by omega, by go_num, by rw [HSTEP.out], HI2.out⟩
              case measure => simp [RowKit.intOf]; omega
          · obtain rfl : q = p := by omega
            have hkk : ¬ ((q : Int) < (q : Int)) := by omega
            have hful : xs.take q = xs := List.take_of_length_le (by omega)
            rw [hful]
            have HAI := Lib.hid (HA.out.on hin (Nat.le_refl _))
            have q3y := cell_on hin q3x
            have c1y := cell_on hin c1
            clear hin hful
            subst hp
            rcases hx : hasW xs x.what with _ | _
            · have HX := Lib.hid hx
              clear hx
              go_wp2_with (at_builtin; refine wpList_accAt rfl _ _ 22 rfl 9 _ 1 16 Tryd.underlying22 info_strT rfl (by decide) (by decide) HAI.out (Nat.le_refl _) rfl (wr.heap.size) (by simp) [.string x.what] rfl rfl (fun u hu => by simp at hu; subst hu; rfl) (by omega) ?_; intro A2 d2 w9 hacc2; have HA2 := Lib.hid hacc2; clear hacc2)
              go_roundw
              case rel => exact ⟨k + 1, _, _, _, by omega, by go_num, rfl, by rw [HN.out HX.out, List.length_append]; rfl, by rw [HN.out HX.out, strs_snocT]; exact HA2.out⟩
              case measure => simp [RowKit.intOf]; omega
            · have HX := Lib.hid hx
              clear hx
              go_wp2
              go_roundw
              case rel => exact ⟨k + 1, _, _, _, by omega, by go_num, rfl, by rw [HH.out HX.out], by rw [HH.out HX.out]; exact HAI.out⟩
              case measure => simp [RowKit.intOf]; omega
      · obtain rfl : k = n := by omega
        subst hp
        have HF := Lib.hid (bnext HB.out hbel (Nat.le_refl _))
        have hkk : ¬ ((k : Int) < (k : Int)) := by omega
        clear hbel
        go_wp2
        go_ret2
        refine ⟨_, _, _, by rw [HC0.out]; rfl, ?_, HF.out⟩
        rw [HO.out]
        exact (HA.out.sl (lo := w.heap.size) (by omega) (by omega))
  · have HO := Lib.hid (namesF_bad hc)
    go_enter Tryd.func8, Tryd.ntmps8
    go_wp2_with fail
    refine (l27Code_any s _ hs).mono ?_
    rintro e w1 ⟨g, rfl, hrec, b1⟩
    have HB := Lib.hid b1
    clear hrec b1
    obtain ⟨v, hv⟩ : ∃ v, codeF s = v := ⟨_, rfl⟩
    have HV2 := Lib.hid hv
    rw [hv] at hc ⊢
    have hq : (v != 0) = true := by simpa using hc
    have hq2 : (v == 0) = false := by simpa using hc
    clear hc hv
    go_wp2
    go_ret2
    refine ⟨_, _, _, by rw [HV2.out]; rfl, ?_, HB.out⟩
    rw [HO.out]
    exact Sl.nil _ _ _ _ _
set_option maxHeartbeats 4000000 in
set_option maxRecDepth 100000 in
theorem implNamesIn_any (s : ByteArray) (m : Int) (w : World) (hs : s.size ≤ 1048576) (hm : w.cell? ⟨1, 0, none⟩ = some (.int .i64 m)) (ht : TabP w) (hv : SynP w) :
    Calls Tryd.prog 9 #[.string s] w fun e w' => ∃ A m d, e = .returned (.tuple #[.slice A m d, .int .i64 (codeF s)]) ∧ Sl w' w.heap.size w'.heap.size 9 1 A m d (strs (namesF s)) ∧ Below w.heap.size w w' := by
  have HC := Lib.hid (logCode_any s m w hs hm ht hv)
  clear ht hv hm
  by_cases hc : codeF s = 0
  · have HO := Lib.hid (namesF_ok hc)
    have hlen := logR_len hc
    have HC0 := Lib.hid hc
    have HR := codeR_ok hc
    go_enter Tryd.func9, Tryd.ntmps9
    go_wp2_with fail
    refine HC.out.mono ?_
    rintro e w1 ⟨A, n, d, rfl, hsl, b1⟩
    obtain ⟨wq, hwq⟩ : ∃ y, w1.alloc (.cells #[.slice A n d, .int .i64 (codeR s).stamp, .int .i64 ((codeR s).at_ : Int)] 79) = y := ⟨_, rfl⟩
    have bq : Below w1.heap.size w1 wq := by rw [← hwq]; exact (Below.refl _ _).alloc (Nat.le_refl _) _
    have yb' : Blk wq w1.heap.size 79 #[.slice A n d, .int .i64 (codeR s).stamp, .int .i64 ((codeR s).at_ : Int)] := by rw [← hwq]; exact Blk.new _ _ _
    have HS := Lib.hid (hsl.on bq).low
    have HB := Lib.hid (bnext b1 bq (Nat.le_refl _))
    have e0 : wq.cell? ⟨w1.heap.size, 0, none⟩ = some (.slice A n d) := yb'.cellAt 0 (by simp)
    have e0' : ∀ o1, (wq.alloc o1).cell? ⟨w1.heap.size, 0, none⟩ = some (.slice A n d) := fun o1 => cell_on ((Below.refl _ _).alloc (Nat.le_refl _) o1) e0
    clear yb' hsl b1 bq
    have hln : (logR s).list.length = n := by have := HS.out.len; rw [HR, ens_length] at this; omega
    have R1 := HS.out.reads (Nat.le_refl _)
    rw [HR] at R1
    rw [hln] at HO hlen
    obtain ⟨l, hl⟩ : ∃ y, (logR s).list = y := ⟨_, rfl⟩
    rw [hl] at R1 HO
    rw [hc]
    clear HS hc hl hln HR
    go_wp2
    have hz1 := HB.out.size
    have acc0 := Acc.made wq 9 1
    clear e0 e0' hwq
    go_loopw [6, 21] (fun out i wr => ∃ (k : Nat) (A' : Option Addr) (p d' : Nat), k ≤ n ∧ i = .int .i64 k ∧ out = .slice A' p d' ∧ p = (namesL l k).length ∧ Acc wq.heap.size wq.heap.size 9 1 wq wr A' p d' (strs (namesL l k))) (fun _ i _ => n - (RowKit.intOf i).toNat)
    case atStart => exact ⟨0, _, _, _, Nat.zero_le _, rfl, rfl, rfl, acc0⟩
    case round =>
      obtain ⟨k, A', p, d', hk, rfl, rfl, hp, hacc⟩ := hrel
      have HA0 := Lib.hid hacc
      have hvl := namesL_len l k
      have hpl : p ≤ 4000 := by omega
      clear acc0 hacc
      have hbel := HA0.out.below (B := wq.heap.size) (Nat.le_refl _) (Nat.le_refl _)
      by_cases hlt : k < n
      · obtain ⟨x, b, off, he, rfl, hb, c0, c1, c2⟩ := en_at (R1.on (Nat.le_refl _) hbel) hlt
        have HH := Lib.hid (fun h2 => namesL_has he h2)
        have HN := Lib.hid (fun h2 => namesL_new he h2)
        have hi0 : (0 : Int) ≤ k := by omega
        have hi1 : (k : Int) < n := by omega
        have RO := (HA0.out.sl (lo := wq.heap.size) (Nat.le_refl _) (Nat.le_refl _)).reads (Nat.le_refl _)
        have HA := Lib.hid (HA0.out.on ((Below.refl wr.heap.size wr).alloc (Nat.le_refl _) (.cells #[.int .i64 x.day, .string x.what, .int .i64 x.val] 41)) (Nat.le_refl _))
        obtain ⟨xs, hxs⟩ : ∃ y, namesL l k = y := ⟨_, rfl⟩
        rw [hxs] at RO HA HH HN hp hvl
        have HXS := Lib.hid hxs
        have HRO := Lib.hid RO
        clear he hbel hxs hvl RO
        subst hp
        rcases hx : hasW xs x.what with _ | _
        · have HX := Lib.hid hx
          go_wp2_with fail
          (have hk := slicesContains_any A' xs.length d' _ xs x.what _ (HRO.out.on (Nat.le_refl _) ((Below.refl wr.heap.size wr).alloc (Nat.le_refl _) (.cells #[.int .i64 x.day, .string x.what, .int .i64 x.val] 41))) (by omega))
          rw [hx] at hk
          refine hk.mono ?_
          rintro e w2 ⟨rfl, rfl⟩
          clear hk hx
          go_wp2_with (at_builtin; refine wpList_accAt rfl _ _ 22 rfl 9 _ 1 16 Tryd.underlying22 info_strT rfl (by decide) (by decide) HA.out (Nat.le_refl _) rfl (wr.heap.size + 1) (by simp) [.string x.what] rfl rfl (fun u hu => by simp at hu; subst hu; rfl) (by omega) ?_; intro A2 d2 w9 hacc2; have HA2 := Lib.hid hacc2; clear hacc2)
          go_roundw
          case rel => exact ⟨k + 1, _, _, _, by omega, by go_num, rfl, by rw [HN.out HX.out, List.length_append]; rfl, by rw [HN.out HX.out, strs_snocT]; exact HA2.out⟩
          case measure => simp [RowKit.intOf]; omega
        · have HX := Lib.hid hx
          go_wp2_with fail
          (have hk := slicesContains_any A' xs.length d' _ xs x.what _ (HRO.out.on (Nat.le_refl _) ((Below.refl wr.heap.size wr).alloc (Nat.le_refl _) (.cells #[.int .i64 x.day, .string x.what, .int .i64 x.val] 41))) (by omega))
          rw [hx] at hk
          refine hk.mono ?_
          rintro e w2 ⟨rfl, rfl⟩
          clear hk hx
          go_wp2
          go_roundw
          case rel => exact ⟨k + 1, _, _, _, by omega, by go_num, rfl, by rw [HH.out HX.out], by rw [HH.out HX.out]; exact HA.out⟩
          case measure => simp [RowKit.intOf]; omega
      · obtain rfl : k = n := by omega
        subst hp
        have HF := Lib.hid (bnext HB.out hbel (Nat.le_refl _))
        have hkk : ¬ ((k : Int) < (k : Int)) := by omega
        clear hbel
        go_wp2
        go_ret2
        refine ⟨_, _, _, by rw [HC0.out]; rfl, ?_, HF.out⟩
        rw [HO.out]
        exact (HA0.out.sl (lo := w.heap.size) (by omega) (by omega))
  · have HO := Lib.hid (namesF_bad hc)
    go_enter Tryd.func9, Tryd.ntmps9
    go_wp2_with fail
    refine HC.out.mono ?_
    rintro e w1 ⟨A, n, d, rfl, hsl, b1⟩
    obtain ⟨wq, hwq⟩ : ∃ y, w1.alloc (.cells #[.slice A n d, .int .i64 (codeR s).stamp, .int .i64 ((codeR s).at_ : Int)] 79) = y := ⟨_, rfl⟩
    have bq : Below w1.heap.size w1 wq := by rw [← hwq]; exact (Below.refl _ _).alloc (Nat.le_refl _) _
    have yb' : Blk wq w1.heap.size 79 #[.slice A n d, .int .i64 (codeR s).stamp, .int .i64 ((codeR s).at_ : Int)] := by rw [← hwq]; exact Blk.new _ _ _
    have HS := Lib.hid (hsl.on bq).low
    have HB := Lib.hid (bnext b1 bq (Nat.le_refl _))
    have e0 : wq.cell? ⟨w1.heap.size, 0, none⟩ = some (.slice A n d) := yb'.cellAt 0 (by simp)
    have e0' : ∀ o1, (wq.alloc o1).cell? ⟨w1.heap.size, 0, none⟩ = some (.slice A n d) := fun o1 => cell_on ((Below.refl _ _).alloc (Nat.le_refl _) o1) e0
    clear yb' hsl b1 bq
    obtain ⟨v, hv⟩ : ∃ v, codeF s = v := ⟨_, rfl⟩
    have HV2 := Lib.hid hv
    rw [hv] at hc ⊢
    have hq : (v != 0) = true := by simpa using hc
    have hq2 : (v == 0) = false := by simpa using hc
    clear hc hv
    go_wp2
    go_ret2
    refine ⟨_, _, _, by rw [HV2.out]; rfl, ?_, HB.out⟩
    rw [HO.out]
    exact Sl.nil _ _ _ _ _
end Go.Proofs.YtjmlcobbjpmjpaaDoor
