/- Clients: lists of names. -/
import Derived.Test.YtnlghcpidlpfkaaClC
import Derived.Test.YtnlghcpidlpfkaaAcc
set_option linter.unusedVariables false
namespace Go.Proofs.Ytnlghcpidlpfkaa
open Go.RowKit

theorem info_str : (Try.prog.info? 9).map (fun i => (i.zero, i.size, i.bytes)) = some (some (.string ⟨#[]⟩), 1, 16) := by kernel_rfl
theorem strs_snoc (xs : List ByteArray) (y : ByteArray) : strs (xs ++ [y]) = strs xs ++ [.string y] := by simp [strs]
def namesTo (p : Cl → Bool) (l : List Cl) (k : Nat) : List ByteArray := ((l.take k).filter p).map (·.name)
theorem take_succ_at {l : List Cl} {k : Nat} {x : Cl} (h : l[k]? = some x) : l.take (k + 1) = l.take k ++ [x] := by
  rw [List.take_add_one, h]; rfl
theorem namesTo_yes {p : Cl → Bool} {l : List Cl} {k : Nat} {x : Cl} (h : l[k]? = some x) (hp : p x = true) : namesTo p l (k + 1) = namesTo p l k ++ [x.name] := by
  simp [namesTo, take_succ_at h, List.filter_append, hp]
theorem namesTo_no {p : Cl → Bool} {l : List Cl} {k : Nat} {x : Cl} (h : l[k]? = some x) (hp : p x = false) : namesTo p l (k + 1) = namesTo p l k := by
  simp [namesTo, take_succ_at h, List.filter_append, hp]
theorem namesTo_len (p : Cl → Bool) (l : List Cl) (k : Nat) : (namesTo p l k).length ≤ k := by
  simp only [namesTo, List.length_map]
  refine Nat.le_trans (List.length_filter_le _ _) ?_
  rw [List.length_take]
  omega

theorem ends1_any (x : Cl) (a b : Int) (g1 g2 : Nat) (w : World) (k1 : w.cell? ⟨g1, 0, none⟩ = some (.int .i64 a)) (k2 : w.cell? ⟨g2, 0, none⟩ = some (.int .i64 b)) :
    Calls Try.prog 179 #[.agg #[.string x.name, .int .i64 x.station, .int .i64 x.from_, .int .i64 x.to_, .int .i64 x.quota], .pointer (some ⟨g1, 0, none⟩), .pointer (some ⟨g2, 0, none⟩)] w fun e w' => e = .returned (.bool (inR x.to_ a b)) ∧ Below w.heap.size w w' := by
  have b0 : Below w.heap.size w (w.alloc (.cells #[.string x.name, .int .i64 x.station, .int .i64 x.from_, .int .i64 x.to_, .int .i64 x.quota] 31)) := (Below.refl _ _).alloc (Nat.le_refl _) _
  have k1' := cell_on b0 k1
  have k2' := cell_on b0 k2
  go_enter Try.func179, Try.ntmps179
  go_wp2_with (go_at_call 157; refine (within_any _ _ _ _).mono ?_; rintro e w2 ⟨rfl, rfl⟩)
  go_ret
  exact ⟨rfl, b0⟩
theorem active1_any (x : Cl) (a : Int) (g1 : Nat) (w : World) (k1 : w.cell? ⟨g1, 0, none⟩ = some (.int .i64 a)) :
    Calls Try.prog 180 #[.agg #[.string x.name, .int .i64 x.station, .int .i64 x.from_, .int .i64 x.to_, .int .i64 x.quota], .pointer (some ⟨g1, 0, none⟩)] w fun e w' => e = .returned (.bool (active x a)) ∧ Below w.heap.size w w' := by
  have b0 : Below w.heap.size w (w.alloc (.cells #[.string x.name, .int .i64 x.station, .int .i64 x.from_, .int .i64 x.to_, .int .i64 x.quota] 31)) := (Below.refl _ _).alloc (Nat.le_refl _) _
  have k1' := cell_on b0 k1
  go_enter Try.func180, Try.ntmps180
  go_wp2_with fail
  refine (active_any x a _).mono ?_
  rintro e w2 ⟨rfl, b2⟩
  go_wp2
  go_ret
  exact ⟨rfl, bnext b0 b2 (Nat.le_refl _)⟩

set_option maxHeartbeats 2000000 in
theorem namesEnds_any (A : Option Addr) (n c : Nat) (l : List Cl) (a bb : Int) (g1 g2 : Nat) (B : Nat) (w : World) (h : Reads w B 5 A n (cls l)) (hB : B ≤ w.heap.size) (hn : n ≤ 1000) (k1 : w.cell? ⟨g1, 0, none⟩ = some (.int .i64 a)) (k2 : w.cell? ⟨g2, 0, none⟩ = some (.int .i64 bb)) :
    Calls Try.prog 178 #[.slice A n c, .func (.func 179) #[] #[.pointer (some ⟨g1, 0, none⟩), .pointer (some ⟨g2, 0, none⟩)]] w fun e w' => ∃ A' m d, e = .returned (.slice A' m d) ∧ Sl w' w.heap.size w'.heap.size 9 1 A' m d (strs (namesTo (fun y => inR y.to_ a bb) l n)) ∧ Below w.heap.size w w' := by
  go_enter Try.func178, Try.ntmps178
  go_wp2
  have acc0 := Acc.made w 9 1
  go_loopw [5, 11] (fun o i wr => ∃ (k : Nat) (A' : Option Addr) (m d : Nat), k ≤ n ∧ i = .int .i64 k ∧ o = .slice A' m d ∧ Acc w.heap.size w.heap.size 9 1 w wr A' m d (strs (namesTo (fun y => inR y.to_ a bb) l k))) (fun _ i _ => n - (intOf i).toNat)
  case atStart => exact ⟨0, _, _, _, Nat.zero_le _, rfl, rfl, acc0⟩
  case round =>
    obtain ⟨k, A', m, d, hk, rfl, rfl, hacc⟩ := hrel
    have HA := Lib.hid hacc
    have hml : m ≤ 1000 := by have h1 := HA.out.len; rw [strs_length] at h1; have h2 := namesTo_len (fun y => inR y.to_ a bb) l k; omega
    clear acc0 hacc
    by_cases hlt : k < n
    · have hbw := HA.out.below (Nat.le_refl _) (Nat.le_refl _)
      obtain ⟨x, b, off, he, rfl, hb, c0, c1, c2, c3, c4⟩ := cl_at (h.on hB hbw) hlt
      have HE := Lib.hid he
      have hi0 : (0 : Int) ≤ k := by omega
      have hi1 : (k : Int) < n := by omega
      have hzz := hbw.size
      clear he h
      go_wp2_with fail
      obtain ⟨wq, hwq⟩ : ∃ y, wr.alloc (.cells #[.string x.name, .int .i64 x.station, .int .i64 x.from_, .int .i64 x.to_, .int .i64 x.quota] 31) = y := ⟨_, rfl⟩
      have bx : Blk wq wr.heap.size 31 #[.string x.name, .int .i64 x.station, .int .i64 x.from_, .int .i64 x.to_, .int .i64 x.quota] := by rw [← hwq]; exact Blk.new _ _ _
      have bq : Below wr.heap.size wr wq := by rw [← hwq]; exact (Below.refl _ _).alloc (Nat.le_refl _) _
      rw [hwq]
      clear hwq c0 c1 c2 c3 c4
      refine (ends1_any x a bb g1 g2 _ (cell_on bq (cell_on hbw k1)) (cell_on bq (cell_on hbw k2))).mono ?_
      rintro e w2 ⟨rfl, b2⟩
      have q0 := (bx.on b2).cellAt 0 (by simp)
      have HA1 := Lib.hid ((HA.out.on bq (Nat.le_refl _)).on b2 (Nat.le_refl _))
      have hz2 : w.heap.size ≤ w2.heap.size := Nat.le_trans hzz (Nat.le_trans bq.size b2.size)
      clear bx bq b2 hbw
      rcases hp : (fun y => inR y.to_ a bb) x with _ | _
      · have HQ := Lib.hid (namesTo_no (p := (fun y => inR y.to_ a bb)) HE.out hp)
        first | rw [hp] | skip
        go_wp2
        go_roundw
        case rel => exact ⟨k + 1, _, _, _, by omega, by go_num, rfl, by rw [HQ.out]; exact HA1.out⟩
        case measure => simp [intOf]; omega
      · have HQ := Lib.hid (namesTo_yes (p := (fun y => inR y.to_ a bb)) HE.out hp)
        first | rw [hp] | skip
        go_wp2_with (at_builtin; refine wpList_acc rfl _ _ 79 rfl 9 _ 1 16 Try.underlying79 info_str rfl (by decide) (by decide) HA1.out (Nat.le_refl _) rfl [.string x.name] rfl rfl (fun u hu => by simp at hu; subst hu; rfl) (by omega) ?_; intro A2 d2 w9 hacc2; have HA2 := Lib.hid hacc2; clear hacc2)
        go_roundw
        case rel => exact ⟨k + 1, _, _, _, by omega, by go_num, rfl, by rw [HQ.out, strs_snoc]; exact HA2.out⟩
        case measure => simp [intOf]; omega
    · obtain rfl : k = n := by omega
      go_wp2
      go_ret
      exact ⟨_, _, _, rfl, HA.out.sl (Nat.le_refl _) (Nat.le_refl _), HA.out.below (Nat.le_refl _) (Nat.le_refl _)⟩

set_option maxHeartbeats 2000000 in
theorem namesActive_any (A : Option Addr) (n c : Nat) (l : List Cl) (a : Int) (g1 : Nat) (B : Nat) (w : World) (h : Reads w B 5 A n (cls l)) (hB : B ≤ w.heap.size) (hn : n ≤ 1000) (k1 : w.cell? ⟨g1, 0, none⟩ = some (.int .i64 a)) :
    Calls Try.prog 178 #[.slice A n c, .func (.func 180) #[] #[.pointer (some ⟨g1, 0, none⟩)]] w fun e w' => ∃ A' m d, e = .returned (.slice A' m d) ∧ Sl w' w.heap.size w'.heap.size 9 1 A' m d (strs (namesTo (fun y => active y a) l n)) ∧ Below w.heap.size w w' := by
  go_enter Try.func178, Try.ntmps178
  go_wp2
  have acc0 := Acc.made w 9 1
  go_loopw [5, 11] (fun o i wr => ∃ (k : Nat) (A' : Option Addr) (m d : Nat), k ≤ n ∧ i = .int .i64 k ∧ o = .slice A' m d ∧ Acc w.heap.size w.heap.size 9 1 w wr A' m d (strs (namesTo (fun y => active y a) l k))) (fun _ i _ => n - (intOf i).toNat)
  case atStart => exact ⟨0, _, _, _, Nat.zero_le _, rfl, rfl, acc0⟩
  case round =>
    obtain ⟨k, A', m, d, hk, rfl, rfl, hacc⟩ := hrel
    have HA := Lib.hid hacc
    have hml : m ≤ 1000 := by have h1 := HA.out.len; rw [strs_length] at h1; have h2 := namesTo_len (fun y => active y a) l k; omega
    clear acc0 hacc
    by_cases hlt : k < n
    · have hbw := HA.out.below (Nat.le_refl _) (Nat.le_refl _)
      obtain ⟨x, b, off, he, rfl, hb, c0, c1, c2, c3, c4⟩ := cl_at (h.on hB hbw) hlt
      have HE := Lib.hid he
      have hi0 : (0 : Int) ≤ k := by omega
      have hi1 : (k : Int) < n := by omega
      have hzz := hbw.size
      clear he h
      go_wp2_with fail
      obtain ⟨wq, hwq⟩ : ∃ y, wr.alloc (.cells #[.string x.name, .int .i64 x.station, .int .i64 x.from_, .int .i64 x.to_, .int .i64 x.quota] 31) = y := ⟨_, rfl⟩
      have bx : Blk wq wr.heap.size 31 #[.string x.name, .int .i64 x.station, .int .i64 x.from_, .int .i64 x.to_, .int .i64 x.quota] := by rw [← hwq]; exact Blk.new _ _ _
      have bq : Below wr.heap.size wr wq := by rw [← hwq]; exact (Below.refl _ _).alloc (Nat.le_refl _) _
      rw [hwq]
      clear hwq c0 c1 c2 c3 c4
      refine (active1_any x a g1 _ (cell_on bq (cell_on hbw k1))).mono ?_
      rintro e w2 ⟨rfl, b2⟩
      have q0 := (bx.on b2).cellAt 0 (by simp)
      have HA1 := Lib.hid ((HA.out.on bq (Nat.le_refl _)).on b2 (Nat.le_refl _))
      have hz2 : w.heap.size ≤ w2.heap.size := Nat.le_trans hzz (Nat.le_trans bq.size b2.size)
      clear bx bq b2 hbw
      rcases hp : (fun y => active y a) x with _ | _
      · have HQ := Lib.hid (namesTo_no (p := (fun y => active y a)) HE.out hp)
        first | rw [hp] | skip
        go_wp2
        go_roundw
        case rel => exact ⟨k + 1, _, _, _, by omega, by go_num, rfl, by rw [HQ.out]; exact HA1.out⟩
        case measure => simp [intOf]; omega
      · have HQ := Lib.hid (namesTo_yes (p := (fun y => active y a)) HE.out hp)
        first | rw [hp] | skip
        go_wp2_with (at_builtin; refine wpList_acc rfl _ _ 79 rfl 9 _ 1 16 Try.underlying79 info_str rfl (by decide) (by decide) HA1.out (Nat.le_refl _) rfl [.string x.name] rfl rfl (fun u hu => by simp at hu; subst hu; rfl) (by omega) ?_; intro A2 d2 w9 hacc2; have HA2 := Lib.hid hacc2; clear hacc2)
        go_roundw
        case rel => exact ⟨k + 1, _, _, _, by omega, by go_num, rfl, by rw [HQ.out, strs_snoc]; exact HA2.out⟩
        case measure => simp [intOf]; omega
    · obtain rfl : k = n := by omega
      go_wp2
      go_ret
      exact ⟨_, _, _, rfl, HA.out.sl (Nat.le_refl _) (Nat.le_refl _), HA.out.below (Nat.le_refl _) (Nat.le_refl _)⟩
end Go.Proofs.Ytnlghcpidlpfkaa
