/- Rows of int64: the law's comparisons, marks and their reading. -/
import Derived.Test.YtnlghcpidlpfkaaI64
import Derived.Test.YtnlghcpidlpfkaaMat
import Derived.Test.YtnlghcpidlpfkaaSrcP
set_option linter.unusedVariables false
set_option linter.unusedSimpArgs false
namespace Go.Proofs.Ytnlghcpidlpfkaa
open Go.RowKit

def marksF (k0 n : Nat) : List Int := (List.range n).map fun (j : Nat) => (k0 : Int) + (j : Int)
theorem marksF_length (k0 n : Nat) : (marksF k0 n).length = n := by simp [marksF]
theorem marksF_get {k0 n i : Nat} (h : i < n) : (marksF k0 n)[i]? = some ((k0 : Int) + (i : Int)) := by simp [marksF, h]
theorem Sl.blk {w : World} {lo hi g m : Nat} {t : TypeId} {xs : List Value} (h : Sl w lo hi t 1 (some ⟨g, 0, none⟩) m m xs) : Blk w g t xs.toArray := by
  rcases h.form with ⟨h1, _⟩ | ⟨g', cur, h1, h2, h3, h4, h5, h6, h7⟩
  · cases h1
  · injection h1 with h1; injection h1 with h1; subst h1
    rw [List.take_of_length_le (by rw [Array.length_toList]; omega)] at h7
    rw [← h7]; exact h4
/-- A row turned as a whole. -/
theorem Sq.row_set {w w' : World} {lo hi m n c : Nat} {t tt : TypeId} {A : Option Addr} {gs : List Nat} {R R' : Nat → List Int} {xs : List Int} (h : Sq w lo hi m t tt A n c gs R) {k g : Nat} (hg : gs[k]? = some g) (ho : Only g (g + 1) w w') (hb : Blk w' g t (ints xs).toArray) (hm : xs.length = m) (h1 : R' k = xs) (h2 : ∀ j, j ≠ k → j < n → R' j = R j) : Sq w' lo hi m t tt A n c gs R' := by
  have hlen := h.len
  refine ⟨⟨⟨h.1.1.1, ?_⟩, h.1.2⟩, ⟨h.2.1.nodup, fun j g' hj => ?_⟩, h.2.2⟩
  · rcases h.1.1.2 with hn | ⟨g', cap, cur, h', hb', hgg, rest⟩
    · exact .inl hn
    · refine .inr ⟨g', cap, cur, h', hb', ?_, rest⟩
      injection h' with e1
      have hne : g' ≠ g := fun e => h.2.2 _ e1 (by simp only; rw [e]; exact List.mem_of_getElem? hg)
      rw [ho.block g' (Array.getElem?_eq_some_iff.1 hgg).1 (by omega)]
      exact hgg
  · obtain ⟨a, b, c, d⟩ := h.2.1.row j g' hj
    by_cases e : j = k
    · subst e
      rw [hg] at hj; injection hj with hj; subst hj
      rw [h1]
      exact ⟨a, b, hm, hb⟩
    · have hjn : j < n := by have := (List.getElem?_eq_some_iff.1 hj).1; omega
      rw [h2 j e hjn]
      refine ⟨a, b, c, (ho.block g' d.lt ?_).trans d⟩
      have hne : g' ≠ g := fun ee => e ((List.getElem?_inj (List.getElem?_eq_some_iff.1 hj).1 h.2.1.nodup).1 (by rw [hj, hg, ee]))
      omega
theorem eqInt64S_quiet (A A' : Option Addr) (n c c' B : Nat) (l : List Int) (w : World) (h : Reads w B 1 A n (ints l)) (h' : Reads w B 1 A' n (ints l)) (hn : n ≤ 1048576) :
    Calls Try.prog 129 #[.slice A n c, .slice A' n c'] w fun e w' => e = .returned (.bool true) ∧ ∃ q, w' = w.drewN q := by
  go_enter Try.func129, Try.ntmps129
  go_wp2
  go_loopw [5] (fun i wr => ∃ k q : Nat, k ≤ n ∧ i = .int .i64 k ∧ wr = w.drewN q) (fun i _ => n - (intOf i).toNat)
  case atStart => exact ⟨0, 0, Nat.zero_le _, rfl, rfl⟩
  case round =>
    obtain ⟨k, q, hk, rfl, rfl⟩ := hrel
    by_cases hlt : k < n
    · obtain ⟨x, b, off, he, rfl, hb, c0⟩ := int_at h hlt
      obtain ⟨x', b', off', he', rfl, hb', c1⟩ := int_at h' hlt
      obtain rfl : x = x' := by rw [he] at he'; injection he'
      have hlt' : (k : Int) < n := by omega
      have hk0 : (0 : Int) ≤ k := by omega
      clear he he' h h'
      go_wp2_with fail
      go_quiet (fail)
      go_wp2
      go_roundw
      case rel => exact ⟨k + 1, _, by omega, by go_num, rfl⟩
      case measure => simp [intOf]; omega
    · obtain rfl : k = n := by omega
      go_wp2
      go_ret
      exact ⟨rfl, q, rfl⟩
theorem markInt64S_from (A : Option Addr) (n c lo hi k0 : Nat) (xs : List Value) (w : World) (h : Sl w lo hi 2 1 A n c xs) (hn : n ≤ 1048576) (hk0 : k0 ≤ 1000000000) :
    Calls Try.prog 135 #[.slice A n c, .int .i64 (k0 : Int)] w fun e w' => e = .returned (.int .i64 ((k0 : Int) + (n : Int))) ∧ Sl w' lo hi 2 1 A n c (ints (marksF k0 n)) ∧ Only lo hi w w' := by
  have hxs := Lib.hid h.len
  go_enter Try.func135, Try.ntmps135
  go_wp2
  go_loopw [1, 5] (fun q i wr => ∃ (k : Nat) (ys : List Value), k ≤ n ∧ i = .int .i64 k ∧ q = .int .i64 ((k0 : Int) + (k : Int)) ∧ Sl wr lo hi 2 1 A n c ys ∧ Fill ys.toArray (ints (marksF k0 n)) k ∧ Only lo hi w wr) (fun _ i _ => n - (intOf i).toNat)
  case atStart => exact ⟨0, xs, Nat.zero_le _, rfl, by simp, h, Fill.zero _ _, Only.refl _ _ _⟩
  case round =>
    obtain ⟨k, ys, hk, rfl, rfl, hsl, hfill, honly⟩ := hrel
    have HS := Lib.hid hsl
    have HF := Lib.hid hfill
    have HO := Lib.hid honly
    have HL := Lib.hid hsl.len
    clear hsl hfill honly h
    by_cases hlt : k < n
    · obtain ⟨g, rfl, hg1, hg2, hg3⟩ := HS.out.lt (by omega)
      have hcell := HS.out.cellAt k (by omega)
      rw [List.getElem?_eq_getElem (by have := HL.out; omega)] at hcell
      have hfro := HS.out.frozenAt k
      go_wp2
      go_roundw
      case rel =>
        refine ⟨k + 1, _, by omega, by go_num, ?_, HS.out.set_ _ _, ?_, HO.out.setCell hg1 hg2 _⟩
        · simp; omega
        · have := HF.out.step (ints_get (marksF_get hlt)) (by have := HL.out; simp; omega)
          rwa [List.setIfInBounds_toArray] at this
      case measure => simp [intOf]; omega
    · obtain rfl : k = n := by omega
      go_wp2
      go_ret
      refine ⟨rfl, ?_, HO.out⟩
      have := HF.out.done (by have := HL.out; simp; omega) (by rw [ints_length, marksF_length])
      have e : ys = ints (marksF k0 k) := by simpa using congrArg Array.toList this
      rw [← e]
      exact HS.out
theorem heldInt64S_from (A : Option Addr) (n c B k0 : Nat) (w : World) (h : Reads w B 1 A n (ints (marksF k0 n))) (hn : n ≤ 1048576) (hk0 : k0 ≤ 1000000000) :
    Calls Try.prog 136 #[.slice A n c, .int .i64 (k0 : Int)] w fun e w' => e = .returned (.int .i64 ((k0 : Int) + (n : Int))) ∧ w = w' := by
  go_enter Try.func136, Try.ntmps136
  go_wp2
  go_loop [1, 5] (fun q i => ∃ (k : Nat), k ≤ n ∧ i = .int .i64 k ∧ q = .int .i64 ((k0 : Int) + (k : Int))) (fun _ i => n - (intOf i).toNat)
  case atStart => exact ⟨0, Nat.zero_le _, rfl, by simp⟩
  case round =>
    obtain ⟨k, hk, rfl, rfl⟩ := hrel
    by_cases hlt : k < n
    · obtain ⟨x, b, off, he, rfl, hb, c0⟩ := int_at h hlt
      obtain rfl : (k0 : Int) + (k : Int) = x := by rw [marksF_get hlt] at he; injection he
      clear he h
      go_wp2
      go_round
      case rel => exact ⟨k + 1, by omega, by go_num, by simp; omega⟩
      case measure => simp [intOf]; omega
    · obtain rfl : k = n := by omega
      go_wp2
      go_ret
      exact ⟨rfl, rfl⟩

theorem Sq.reads {w : World} {lo hi m n c : Nat} {t tt : TypeId} {A : Option Addr} {gs : List Nat} {R : Nat → List Int} (h : Sq w lo hi m t tt A n c gs R) {k g : Nat} (hg : gs[k]? = some g) : Reads w w.heap.size 1 (some ⟨g, 0, none⟩) m (ints (R k)) := by
  obtain ⟨a, b, c, d⟩ := h.2.1.row k g hg
  exact d.readsL (by rw [ints_length]; omega)
set_option maxRecDepth 100000 in
theorem eqInt64SS_same (A A' : Option Addr) (n c c' m lo hi lo' hi' : Nat) (gs gs' : List Nat) (R : Nat → List Int) (w : World) (h : Sq w lo hi m 2 53 A n c gs R) (h' : Sq w lo' hi' m 2 53 A' n c' gs' R) (hn : n ≤ 1048576) (hm : m ≤ 1048576) :
    Calls Try.prog 39 #[.slice A n c, .slice A' n c'] w fun e w' => e = .returned (.bool true) ∧ Below w.heap.size w w' := by
  go_enter Try.func39, Try.ntmps39
  go_wp2
  go_loopw [5] (fun i wr => ∃ k : Nat, k ≤ n ∧ i = .int .i64 k ∧ Below w.heap.size w wr) (fun i _ => n - (intOf i).toNat)
  case atStart => exact ⟨0, Nat.zero_le _, rfl, Below.refl _ _⟩
  case round =>
    obtain ⟨k, hk, rfl, hbel⟩ := hrel
    have HB := Lib.hid hbel
    have h1 := h.on hbel
    have h1' := h'.on hbel
    clear hbel
    by_cases hlt : k < n
    · obtain ⟨go, g, rfl, hg, c0, _, _, _, _⟩ := h1.head hlt
      obtain ⟨go', g', rfl, hg', c0', _, _, _, _⟩ := h1'.head hlt
      have HR := Lib.hid (h1.reads hg)
      have HR' := Lib.hid (h1'.reads hg')
      have HC := Lib.hid (show ∀ W, (∃ m, W = wr.drewN m) → Calls Try.prog 129 #[.slice (some ⟨g, 0, none⟩) m m, .slice (some ⟨g', 0, none⟩) m m] W fun e w' => e = .returned (.bool true) ∧ ∃ q, w' = W.drewN q from fun W hW => by
        obtain ⟨j, rfl⟩ := hW
        exact eqInt64S_quiet _ _ _ _ _ _ _ _ (HR.out.keep (w' := wr.drewN j) fun _ _ => rfl) (HR'.out.keep (w' := wr.drewN j) fun _ _ => rfl) hm)
      have hlt' : (k : Int) < n := by omega
      have hk0 : (0 : Int) ≤ k := by omega
      clear hg hg' h1 h1'
      go_wp2_with fail
      go_quiet ((go_at_call 129; exact Calls.quiet_of (HC.out _ ⟨_, rfl⟩)))
      go_wp2
      go_roundw
      case rel => exact ⟨k + 1, by omega, by go_num, below_drewN HB.out _⟩
      case measure => simp [intOf]; omega
    · obtain rfl : k = n := by omega
      go_wp2
      go_ret
      exact ⟨rfl, HB.out⟩
theorem markInt64SS_any (A : Option Addr) (n c m lo hi : Nat) (gs : List Nat) (R : Nat → List Int) (w : World) (h : Sq w lo hi m 2 53 A n c gs R) (hn : n ≤ 1000) (hm : m ≤ 1000) :
    Calls Try.prog 42 #[.slice A n c, .int .i64 1] w fun e w' => e = .returned (.int .i64 ((1 + m * n : Nat) : Int)) ∧ Sq w' lo hi m 2 53 A n c gs (fun i => marksF (1 + m * i) m) ∧ Only lo hi w w' := by
  go_enter Try.func42, Try.ntmps42
  go_wp2
  go_loopw [1, 5] (fun q i wr => ∃ k : Nat, k ≤ n ∧ i = .int .i64 k ∧ q = .int .i64 ((1 + m * k : Nat) : Int) ∧ Sq wr lo hi m 2 53 A n c gs (fun i => if i < k then marksF (1 + m * i) m else R i) ∧ Only lo hi w wr) (fun _ i _ => n - (intOf i).toNat)
  case atStart => exact ⟨0, Nat.zero_le _, rfl, by simp, by simpa using h, Only.refl _ _ _⟩
  case round =>
    obtain ⟨k, hk, rfl, rfl, hsq, honly⟩ := hrel
    have HS := Lib.hid hsq
    have HO := Lib.hid honly
    clear hsq honly h
    by_cases hlt : k < n
    · obtain ⟨go, g, rfl, hg, c0, hg1, hg2, hg3, _⟩ := HS.out.head hlt
      have hb : m * k ≤ 1000000 := Nat.le_trans (Nat.mul_le_mul hm (Nat.le_trans hk hn)) (by decide)
      have HG := Lib.hid hg
      have hsl := HS.out.2.1.sl hg (by unfold maxLen; omega)
      clear hg
      go_wp2_with fail
      refine (markInt64S_from _ _ _ _ _ (1 + m * k) _ _ hsl (by omega) (by omega)).mono ?_
      rintro e w1 ⟨rfl, s1, o1⟩
      clear hsl
      have HB1 := Lib.hid s1.blk
      have HO1 := Lib.hid o1
      clear s1 o1
      go_wp2
      go_roundw
      case rel => exact ⟨k + 1, by omega, by go_num, by rw [Nat.mul_succ]; simp; omega, HS.out.row_set HG.out HO1.out HB1.out (marksF_length _ _) (by simp) (fun j hj hjn => by
          by_cases e : j < k
          · simp [e, show j < k + 1 by omega]
          · simp [e, show ¬ j < k + 1 by omega]), HO.out.trans (HO1.out.wide hg1 hg2)⟩
      case measure => simp [intOf]; omega
    · obtain rfl : k = n := by omega
      go_wp2
      go_ret
      refine ⟨rfl, ?_, HO.out⟩
      refine ⟨HS.out.1, HS.out.2.1.congr (fun j hj => ?_), HS.out.2.2⟩
      rw [if_pos (by have := HS.out.len; omega)]
theorem heldInt64SS_any (A : Option Addr) (n c m lo hi : Nat) (gs : List Nat) (w : World) (h : Sq w lo hi m 2 53 A n c gs (fun i => marksF (1 + m * i) m)) (hn : n ≤ 1000) (hm : m ≤ 1000) :
    Calls Try.prog 43 #[.slice A n c, .int .i64 1] w fun e w' => e = .returned (.int .i64 ((1 + m * n : Nat) : Int)) ∧ w = w' := by
  go_enter Try.func43, Try.ntmps43
  go_wp2
  go_loop [1, 5] (fun q i => ∃ k : Nat, k ≤ n ∧ i = .int .i64 k ∧ q = .int .i64 ((1 + m * k : Nat) : Int)) (fun _ i => n - (intOf i).toNat)
  case atStart => exact ⟨0, Nat.zero_le _, rfl, by simp⟩
  case round =>
    obtain ⟨k, hk, rfl, rfl⟩ := hrel
    by_cases hlt : k < n
    · obtain ⟨go, g, rfl, hg, c0, hg1, hg2, hg3, _⟩ := h.head hlt
      have hb : m * k ≤ 1000000 := Nat.le_trans (Nat.mul_le_mul hm (Nat.le_trans hk hn)) (by decide)
      have hr := h.reads hg
      clear hg
      go_wp2_with fail
      refine (heldInt64S_from _ _ _ _ (1 + m * k) _ hr (by omega) (by omega)).mono ?_
      rintro e w' ⟨rfl, rfl⟩
      clear hr
      have hpos : decide (((1 + m * k : Nat) : Int) + (m : Int) < 0) = false := by rw [decide_eq_false_iff_not]; omega
      go_wp2
      go_round
      case rel => exact ⟨k + 1, by omega, by go_num, by rw [Nat.mul_succ]; simp; omega⟩
      case measure => simp [intOf]; omega
    · obtain rfl : k = n := by omega
      go_wp2
      go_ret
      exact ⟨rfl, rfl⟩
end Go.Proofs.Ytnlghcpidlpfkaa
