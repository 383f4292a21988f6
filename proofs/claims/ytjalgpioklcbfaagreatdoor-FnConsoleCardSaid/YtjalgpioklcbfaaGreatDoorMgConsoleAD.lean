/- The reference's l01Split: the parts of a text between bytes c. Lists of runs compared. The library's table of powers of ten, carried; the program's decimal form of a number. slices.EqualFunc at runs with the program's sameRun; the program's SameRuns. strings.Split at one byte, as the program calls it: the parts of a text. strings.Cut at one byte, as the program calls it. The net: stations and tubes. strings.Join, as the program calls it. Numbers read from texts, as the program does it. The desk: how it comes in, its size, the law's copy and comparison. What a row's claim gives of the library's own variables: the world's shape kept beside what is laid. The desk: its size, the law's copy, the law's comparison. The desk compared: by the law, by the reference, by the program. One tube tested. -/
import Derived.Test.YtjalgpioklcbfaaGreatDoorMgConsoleAA
import Derived.Test.YtjalgpioklcbfaaGreatDoorMgConsoleAB
import Derived.WalkSpells
import Derived.Test.YtjalgpioklcbfaaGreatDoorMgConsoleAC
import Derived.Test.YtjalgpioklcbfaaGreatDoorKShelf
import Derived.Lib.LaidTab
import Derived.Lib.Join
import Derived.Lib.ParseIntBTie
import Derived.Lib.AtoiErrMem
import Derived.Test.YtjalgpioklcbfaaGreatDoorRows
import Derived.HandedShaped
import Derived.Handed
import Derived.Shelf.Vars
import Derived.LaidMore
import Derived.Stop.LaidErr
import Derived.Deep.DeepCutAuto
import Derived.Orders
set_option linter.unusedVariables false
set_option linter.unusedSimpArgs false
namespace Go.Proofs.YtjalgpioklcbfaaGreatDoor
open Go.RowKit Go.Lib

theorem piece_data (s : ByteArray) (j k : Nat) : (s.extract j k).data.toList = (s.data.toList.drop j).take (k - j) := by
  simp [ByteArray.data_extract, Array.toList_extract, List.extract_eq_take_drop]
theorem split_step {s : ByteArray} {c : UInt8} {j k : Nat} (hn : c ∉ (s.extract j k).data.toList) (hj : j ≤ k) (hk : k < s.size) (hc : s[k] = c) :
    splitS c (s.extract j s.size) = s.extract j k :: splitS c (s.extract (k + 1) s.size) := by
  have hl := data_len s
  have e1 : s.data.toList.drop j = (s.data.toList.drop j).take (k - j) ++ c :: s.data.toList.drop (k + 1) := by
    have e2 : s.data.toList.drop k = c :: s.data.toList.drop (k + 1) := by
      rw [List.drop_eq_getElem_cons (by omega)]
      have := byte_at s k hk
      rw [List.getElem?_eq_getElem (by omega)] at this
      injection this with this
      rw [this, hc]
    rw [← e2]
    have e3 : s.data.toList.drop k = (s.data.toList.drop j).drop (k - j) := by
      rw [List.drop_drop]; congr 1; omega
    rw [e3, List.take_append_drop]
  unfold splitS
  rw [extract_to_end, extract_to_end, e1, ← piece_data, splitL_hit hn, List.map_cons, asBytes_data]
theorem no_step {s : ByteArray} {c : UInt8} {j k : Nat} (hn : c ∉ (s.extract j k).data.toList) (hj : j ≤ k) (hk : k < s.size) (hc : s[k] ≠ c) : c ∉ (s.extract j (k + 1)).data.toList := by
  have hl := data_len s
  rw [piece_data] at hn ⊢
  rw [show k + 1 - j = (k - j) + 1 by omega, List.take_succ_eq_append_getElem (by rw [List.length_drop]; omega)]
  intro h
  rcases List.mem_append.1 h with h | h
  · exact hn h
  · rw [List.mem_singleton, List.getElem_drop] at h
    have := byte_at s k hk
    rw [List.getElem?_eq_getElem (by omega)] at this
    injection this with this
    apply hc
    rw [h, ← this]
    congr 1
    omega
theorem no_start (s : ByteArray) (c : UInt8) (j : Nat) : c ∉ (s.extract j j).data.toList := by
  rw [piece_data]; simp
theorem split_end {s : ByteArray} {c : UInt8} (h : c ∉ s.data.toList) : splitS c s = [s] := by
  unfold splitS
  rw [splitL_none h, List.map_cons, asBytes_data, List.map_nil]
theorem whole_ (s : ByteArray) : s.extract 0 s.size = s := by
  have h := piece_data s 0 s.size
  rw [show s.size - 0 = s.data.toList.length by rw [data_len]; rfl, List.drop_zero, List.take_length] at h
  rw [← asBytes_data (s.extract 0 s.size), h, asBytes_data]
theorem info_strT : (Tryz.prog.info? 9).map (fun i => (i.zero, i.size, i.bytes)) = some (some (.string ⟨#[]⟩), 1, 16) := by kernel_rfl
theorem strs_snocT (l : List ByteArray) (x : ByteArray) : strs (l ++ [x]) = strs l ++ [.string x] := by simp [strs]

set_option maxHeartbeats 4000000 in
set_option maxRecDepth 100000 in
theorem l01Split_any (s : ByteArray) (c : UInt8) (w : World) (hs : s.size ≤ 1048576) :
    Calls Tryz.prog 40 #[.string s, .int .u8 (c.toNat : Int)] w fun e w' => ∃ A m d, e = .returned (.slice A m d) ∧ Sl w' w.heap.size w'.heap.size 9 1 A m d (strs (splitS c s)) ∧ Below w.heap.size w w' := by
  have acc0 := Acc.made w 9 1
  go_enter Tryz.func40, Tryz.ntmps40
  go_wp2
  go_loopw [5, 6, 7] (fun o f i wr => ∃ (k j : Nat) (A' : Option Addr) (m d : Nat) (ds : List ByteArray), j ≤ k ∧ k ≤ s.size ∧ i = .int .i64 k ∧ f = .int .i64 j ∧ o = .slice A' m d ∧ Acc w.heap.size w.heap.size 9 1 w wr A' m d (strs ds) ∧ splitS c s = ds ++ splitS c (s.extract j s.size) ∧ c ∉ (s.extract j k).data.toList ∧ ds.length ≤ j) (fun _ _ i _ => s.size - (RowKit.intOf i).toNat)
  case atStart => exact ⟨0, 0, _, _, _, [], Nat.le_refl _, Nat.zero_le _, rfl, rfl, rfl, acc0, by rw [whole_]; rfl, no_start s c 0, Nat.le_refl _⟩
  case round =>
    obtain ⟨k, j, A', m, d, ds, hjk, hk, rfl, rfl, rfl, hacc, hsp, hno, hdl⟩ := hrel
    have HA := Lib.hid hacc
    have HS := Lib.hid hsp
    have HN := Lib.hid hno
    have hml : m ≤ s.size := by have h1 := hacc.len; rw [strs_length] at h1; omega
    clear acc0 hacc hsp hno
    have h0j : (0 : Int) ≤ (j : Int) := by omega
    have hjki : (j : Int) ≤ (k : Int) := by omega
    have hki : (k : Int) ≤ (s.size : Int) := by omega
    by_cases hlt : k < s.size
    · have hlti : (k : Int) < (s.size : Int) := by omega
      by_cases hc : s[k] = c
      · have hq : ((s[k].toNat : Int) == (c.toNat : Int)) = true := by rw [hc]; simp
        have HS2 := Lib.hid (show splitS c s = (ds ++ [s.extract j k]) ++ splitS c (s.extract (k + 1) s.size) by
          rw [HS.out, split_step HN.out hjk hlt hc, List.append_assoc]; rfl)
        clear hc
        go_wp2_with (at_builtin; refine wpList_acc rfl _ _ 24 rfl 9 _ 1 16 Tryz.underlying24 info_strT rfl (by decide) (by decide) HA.out (Nat.le_refl _) rfl [.string (s.extract j k)] rfl rfl (fun u hu => by simp at hu; subst hu; rfl) (by omega) ?_; intro A2 d2 w9 hacc2; have HA2 := Lib.hid hacc2; clear hacc2)
        go_roundw
        case rel => exact ⟨k + 1, k + 1, _, _, _, ds ++ [s.extract j k], Nat.le_refl _, by omega, by go_num, by go_num, rfl, by rw [strs_snocT]; exact HA2.out, HS2.out, no_start s c (k + 1), by simp; omega⟩
        case measure => simp [RowKit.intOf]; omega
      · have hq : ((s[k].toNat : Int) == (c.toNat : Int)) = false := by
          rw [beq_eq_false_iff_ne]
          intro e
          exact hc (by rw [← UInt8.toNat_inj]; omega)
        have HN2 := Lib.hid (no_step HN.out hjk hlt hc)
        clear hc
        go_wp2
        go_roundw
        case rel => exact ⟨k + 1, j, _, _, _, ds, by omega, by omega, by go_num, rfl, rfl, HA.out, HS.out, HN2.out, hdl⟩
        case measure => simp [RowKit.intOf]; omega
    · obtain rfl : k = s.size := by omega
      have hkk : ¬ ((s.size : Int) < (s.size : Int)) := by omega
      have HS2 := Lib.hid (show splitS c s = ds ++ [s.extract j s.size] by rw [HS.out, split_end HN.out])
      go_wp2_with (at_builtin; refine wpList_acc rfl _ _ 24 rfl 9 _ 1 16 Tryz.underlying24 info_strT rfl (by decide) (by decide) HA.out (Nat.le_refl _) rfl [.string (s.extract j s.size)] rfl rfl (fun u hu => by simp at hu; subst hu; rfl) (by omega) ?_; intro A2 d2 w9 hacc2; have HA2 := Lib.hid hacc2; clear hacc2)
      go_ret
      refine ⟨_, _, _, rfl, ?_, HA2.out.below (Nat.le_refl _) (Nat.le_refl _)⟩
      rw [HS2.out, strs_snocT]
      exact HA2.out.sl (Nat.le_refl _) (Nat.le_refl _)
end Go.Proofs.YtjalgpioklcbfaaGreatDoor
namespace Go.Proofs.YtjalgpioklcbfaaGreatDoor
open Go.RowKit

end Go.Proofs.YtjalgpioklcbfaaGreatDoor
namespace Go.Proofs.YtjalgpioklcbfaaGreatDoor
open Go.RowKit Go.Lib

def TabP (w : World) : Prop := Lib.TabIs Tryz.prog w "internal/strconv.uint64pow10" .u64 Lib.pow10Tab
theorem tabUp {w w' : World} (h : TabP w) (hb : Below w.heap.size w w') : TabP w' := by
  unfold TabP Lib.TabIs World.var? at h ⊢
  cases hg : Tryz.prog.globalNamed "internal/strconv.uint64pow10" with
  | none => rw [hg] at h; cases h
  | some g =>
    rw [hg] at h
    simp only [Option.bind_some] at h ⊢
    have hlt : g < w.heap.size := by
      rcases Nat.lt_or_ge g w.heap.size with h' | h'
      · exact h'
      · rw [Array.getElem?_eq_none h'] at h; cases h
    rw [hb.block g hlt]
    exact h
theorem below_grow (w : World) (k : Nat) (os : Array Obj) : Below w.heap.size w (Sort.grow (w.drewN k) os) :=
  ⟨rfl, rfl, rfl, by simp, fun q hq => Sort.heap_grow_old (w.drewN k) os hq⟩
theorem decimal_any (n : Int) (w : World) (h0 : -9223372036854775808 ≤ n) (h1 : n ≤ 9223372036854775807) (ht : TabP w) :
    Calls Tryz.prog 38 #[.int .i64 n] w fun e w' => e = .returned (.string (asBytes (itoa n))) ∧ Below w.heap.size w w' := by
  go_enter Tryz.func38, Tryz.ntmps38
  go_wp2_with fail
  refine (Tryz.strconv_FormatInt_10 n h0 h1 _ ht).mono ?_
  rintro e w1 ⟨rfl, k, os, rfl⟩
  have hb := Lib.hid (below_grow w k os)
  obtain ⟨w1, hw1⟩ : ∃ y, Sort.grow (w.drewN k) os = y := ⟨_, rfl⟩
  rw [hw1] at hb ⊢
  clear hw1
  go_wp2
  go_ret
  exact ⟨rfl, hb.out⟩
end Go.Proofs.YtjalgpioklcbfaaGreatDoor
namespace Go.Proofs.YtjalgpioklcbfaaGreatDoor
open Go.RowKit

end Go.Proofs.YtjalgpioklcbfaaGreatDoor
namespace Go.Proofs.YtjalgpioklcbfaaGreatDoor
open Go.RowKit Go.Lib

theorem Sl.full (w : World) (l : List ByteArray) (t : TypeId) (h : l.length ≤ 1048577) :
    Sl (w.alloc (.cells (strs l).toArray t)) w.heap.size (w.alloc (.cells (strs l).toArray t)).heap.size t 1 (some ⟨w.heap.size, 0, none⟩) l.length l.length (strs l) := by
  have hl : (strs l).length = l.length := by simp [strs]
  refine ⟨⟨by rw [hl, Nat.mul_one], .inr ⟨w.heap.size, l.length, (strs l).toArray, rfl, Nat.le_refl _, heap_alloc_new w _, Nat.le_refl _, ?_, by simp [hl], ?_⟩⟩, fun b hb => ?_⟩
  · exact Nat.le_trans h (by decide)
  · simp
    exact List.take_of_length_le (by rw [hl]; exact Nat.le_refl _)
  · injection hb with hb
    subst hb
    simp
theorem strSplit_any (s : ByteArray) (c : UInt8) (m : Int) (w : World) (hs : s.size ≤ 1048576) (hm : w.cell? ⟨1, 0, none⟩ = some (.int .i64 m)) :
    Calls Tryz.prog 27 #[.string s, .string ⟨#[c]⟩] w fun e w' => ∃ A n d, e = .returned (.slice A n d) ∧ Sl w' w.heap.size w'.heap.size 9 1 A n d (strs (splitS c s)) ∧ Below w.heap.size w w' := by
  have hlen : (splitS c s).length = s.data.toList.count c + 1 := splitS_len c s
  have hcnt : s.data.toList.count c ≤ s.size := by rw [← data_len s]; exact List.count_le_length
  refine (Tryz.strings_Split s ⟨#[c]⟩ m w (by omega) hm (Nat.le_refl 1)).mono ?_
  rintro e w' ⟨rfl, rfl⟩
  rw [splitB_one, countB_one, ← hlen]
  exact ⟨_, _, _, rfl, Sl.full w _ _ (by omega), (Below.refl _ _).alloc (Nat.le_refl _) _⟩
end Go.Proofs.YtjalgpioklcbfaaGreatDoor
namespace Go.Proofs.YtjalgpioklcbfaaGreatDoor
open Go.RowKit Go.Lib

theorem cut_hit {c : UInt8} {a r : List UInt8} (h : c ∉ a) : Lib.cut (a ++ c :: r) [c] = (a, r, true) := by
  rcases index_one c (a ++ c :: r) with ⟨_, hn⟩ | ⟨a2, r2, he, hn2, hi⟩
  · exact absurd (by simp) hn
  · have hs1 := splitL_hit (r := r) h
    have hs2 := splitL_hit (r := r2) hn2
    rw [he, hs2] at hs1
    injection hs1 with h1 h2
    subst h1
    have h3 : r2 = r := by
      have := List.append_cancel_left he
      injection this with _ h4
      exact h4.symm
    subst h3
    simp [Lib.cut, hi]
theorem cut_miss {c : UInt8} {l : List UInt8} (h : c ∉ l) : Lib.cut l [c] = (l, [], false) := by
  rcases index_one c l with ⟨hi, _⟩ | ⟨a2, r2, he, _, _⟩
  · simp [Lib.cut, hi]
  · exact absurd (by rw [he]; simp) h
theorem strCut_hit (s a : ByteArray) (c : UInt8) (r : List UInt8) (m : Int) (w : World) (hs : s.size ≤ 1048576) (hm : w.cell? ⟨1, 0, none⟩ = some (.int .i64 m)) (he : s.data.toList = a.data.toList ++ c :: r) (hn : c ∉ a.data.toList) :
    Calls Tryz.prog 66 #[.string s, .string ⟨#[c]⟩] w fun e w' => e = .returned (.tuple #[.string a, .string (asBytes r), .bool true]) ∧ Below w.heap.size w w' := by
  refine (Tryz.strings_Cut s ⟨#[c]⟩ m w (by omega) hm).mono ?_
  rintro e w' ⟨rfl, n, rfl⟩
  rw [he, show (⟨#[c]⟩ : ByteArray).data.toList = [c] from rfl, cut_hit hn]
  exact ⟨rfl, below_drewN (Below.refl _ _) n⟩
theorem strCut_miss (s : ByteArray) (c : UInt8) (m : Int) (w : World) (hs : s.size ≤ 1048576) (hm : w.cell? ⟨1, 0, none⟩ = some (.int .i64 m)) (hn : c ∉ s.data.toList) :
    Calls Tryz.prog 66 #[.string s, .string ⟨#[c]⟩] w fun e w' => e = .returned (.tuple #[.string s, .string ⟨#[]⟩, .bool false]) ∧ Below w.heap.size w w' := by
  refine (Tryz.strings_Cut s ⟨#[c]⟩ m w (by omega) hm).mono ?_
  rintro e w' ⟨rfl, n, rfl⟩
  rw [show (⟨#[c]⟩ : ByteArray).data.toList = [c] from rfl, cut_miss hn]
  exact ⟨rfl, below_drewN (Below.refl _ _) n⟩
end Go.Proofs.YtjalgpioklcbfaaGreatDoor
namespace Go.Proofs.YtjalgpioklcbfaaGreatDoor
open Go.RowKit Go.ChangeShapes Go.WideShapes Go.Deep

structure Nt where
  sta : Int
  tubes : List Tb
/-- Two blocks made: how they lie. -/
theorem two_al (w : World) (a b : Array Value) (ta tb : TypeId) : ∃ W, W = (w.alloc (.cells a ta)).alloc (.cells b tb) ∧ W.heap.size = w.heap.size + 1 + 1 ∧ Blk W w.heap.size ta a ∧ Blk W (w.heap.size + 1) tb b ∧ Below w.heap.size w W := by
  refine ⟨_, rfl, by simp, (Blk.new _ _ _).alloc _, ?_, ((Below.refl _ _).alloc (Nat.le_refl _) _).alloc (by simp) _⟩
  have := Blk.new (w.alloc (.cells a ta)) tb b
  rwa [size_al] at this

end Go.Proofs.YtjalgpioklcbfaaGreatDoor
namespace Go.Proofs.YtjalgpioklcbfaaGreatDoor
open Go.RowKit Go.Lib

/-- One element appended, as a step of a region that draws. -/
theorem step_oneF {P : Program} {ops : Array Oper} {o : Oper} {a : Act} {Q : Exit → Act → World → Prop} {K : Act → World → Prop} {E : Prop} (hgd : o.guard = none) (s x : Operand) (t : TypeId)
    (ho : o.op = .call { callee := .builtin .append, args := #[s, x], argTypes := #[t, t] })
    (e : TypeId) (zv : Value) (size bytes : Nat) (ht : P.underlying t = some (.slice e)) (hinfo : (P.info? e).map (fun i => (i.zero, i.size, i.bytes)) = some (some zv, size, bytes)) (hzs : zv.cells.size = size) (hsz : 0 < size) (hb : bytes ≤ 1000)
    {lo hi : Nat} {wr : World} {A : Option Addr} {m c : Nat} {xs : List Value} (h : Sl wr lo hi e size A m c xs) (hlo : lo ≤ wr.heap.size) (hs : a.eval s = .slice A m c)
    (news : List Value) (hd : Nat) (hhd : hd = wr.heap.size) (hx : a.eval x = .slice (some ⟨hd, 0, none⟩) 1 1) (hl : news.length = size) (h1 : ∀ u ∈ news, u.oneCell' = true) (hm : m < 100000000)
    (HK : ∀ A' c' w1, Sl w1 lo w1.heap.size e size A' (m + 1) c' (xs ++ news) → Below lo wr w1 → (∀ g, g < wr.heap.size → (∀ ad, A = some ad → ad.block ≠ g) → w1.heap[g]? = wr.heap[g]?) → (∀ g, g < wr.heap.size → (∀ ad, A = some ad → ad.block ≠ g) → ∀ ad, A' = some ad → ad.block ≠ g) → K (a.put o.dst (.slice A' (m + 1) c')) w1) :
    if Region.wanted o (yielded ops a.tmps) = true then Oper.wp P o a (wr.alloc (.cells news.toArray e)) K Q else E := by
  have hw : Region.wanted o (yielded ops a.tmps) = true := by simp [Region.wanted, hgd]
  rw [if_pos hw]
  exact wp_oneF s x t ho e zv size bytes ht hinfo hzs hsz hb h hlo hs news hd hhd hx hl h1 hm fun A' c' w1 k1 k2 _ k4 k5 => HK A' c' w1 k1 k2 k4 k5
theorem Sl.boxNe {w : World} {lo hi : Nat} {t : TypeId} {size : Nat} {A : Option Addr} {n c : Nat} {xs : List Value} (h : Sl w lo hi t size A n c xs) {p : Addr} (hne : ∀ ad, A = some ad → ad.block ≠ p.block) (u : Value) : Sl (w.setCell p u) lo hi t size A n c xs := by
  refine ⟨⟨h.1.1, ?_⟩, h.2⟩
  rcases h.1.2 with hn | ⟨g, cap, cur, h', hb, hg, rest⟩
  · exact .inl hn
  · refine .inr ⟨g, cap, cur, h', hb, ?_, rest⟩
    injection h' with h1
    rw [Below.heap_setCell w p u g (hne _ h1)]
    exact hg
theorem join_joinL (c : UInt8) : ∀ l : List (List UInt8), Lib.join l [c] = joinL c l
  | [] => rfl
  | [x] => by rw [join_one]; rfl
  | x :: y :: r => by
    rw [join_cons, joinL, ← join_joinL c (y :: r), join_cons]
    simp [joinTail]
theorem joinL_len (c : UInt8) (m : Nat) : ∀ l : List (List UInt8), (∀ x ∈ l, x.length ≤ m) → (joinL c l).length ≤ l.length * (m + 1)
  | [], _ => by simp [joinL]
  | [x], h => by have := h x (by simp); simp [joinL]; omega
  | x :: y :: r, h => by
    have h1 := h x (by simp)
    have ih := joinL_len c m (y :: r) (fun z hz => h z (List.mem_cons_of_mem _ hz))
    simp only [joinL, List.length_append, List.length_cons, Nat.add_mul] at ih ⊢
    omega
/-- A row of texts joined by a byte. -/
theorem strJoin_any (c : UInt8) (A : Option Addr) (n d lo hi : Nat) (xs : List ByteArray) (w : World) (h : Sl w lo hi 9 1 A n d (strs xs)) (hn : n ≤ 1048577) (hl : (joinL c (xs.map fun s => s.data.toList)).length ≤ 140737488355328) :
    Calls Tryz.prog 80 #[.slice A n d, .string ⟨#[c]⟩] w fun e w' => e = .returned (.string (asBytes (joinL c (xs.map fun s => s.data.toList)))) ∧ Below w.heap.size w w' := by
  have hx : xs.length = n := by have := h.len; simpa [strs] using this
  by_cases h0 : n = 0
  · subst h0
    obtain rfl : xs = [] := List.length_eq_zero_iff.1 hx
    refine (Tryz.strings_Join_none A d ⟨#[c]⟩ w).mono ?_
    rintro e w' ⟨rfl, rfl⟩
    exact ⟨rfl, Below.refl _ _⟩
  · rcases h.form with ⟨_, h1, _⟩ | ⟨g, cur, rfl, _, _, hb, hnd, _, ht⟩
    · exact absurd h1 h0
    · subst hx
      have hcell : ∀ (j : Nat) x, xs[j]? = some x → w.cell? ⟨g, 0 + j, none⟩ = some (.string x) := fun j x hj => by
        rw [Nat.zero_add, h.cellAt j (by have := (List.getElem?_eq_some_iff.1 hj).1; omega)]
        simp [strs, hj]
      refine (Tryz.strings_Join g 0 d xs ⟨#[c]⟩ w hcell hb.lt (by omega) hnd (by rw [show (⟨#[c]⟩ : ByteArray).data.toList = [c] from rfl, join_joinL]; exact hl)).mono ?_
      rintro e w' ⟨rfl, b⟩
      exact ⟨by rw [show (⟨#[c]⟩ : ByteArray).data.toList = [c] from rfl, join_joinL]; rfl, b⟩
end Go.Proofs.YtjalgpioklcbfaaGreatDoor
namespace Go.Proofs.YtjalgpioklcbfaaGreatDoor
open Go.RowKit Go.Lib

def SynP (w : World) : Prop := ∃ (tp : TypeId) (p : Value), w.var? Tryz.prog "strconv.ErrSyntax" = some #[.iface tp p]
theorem var_up {w w' : World} {n : String} {cs : Array Value} (h : w.var? Tryz.prog n = some cs) (hb : Below w.heap.size w w') : w'.var? Tryz.prog n = some cs := by
  unfold World.var? at h ⊢
  cases hg : Tryz.prog.globalNamed n with
  | none => rw [hg] at h; cases h
  | some g =>
    rw [hg] at h
    simp only [Option.bind_some] at h ⊢
    have hlt : g < w.heap.size := by
      rcases Nat.lt_or_ge g w.heap.size with h' | h'
      · exact h'
      · rw [Array.getElem?_eq_none h'] at h; cases h
    rw [hb.block g hlt]
    exact h
theorem synUp {w w' : World} (h : SynP w) (hb : Below w.heap.size w w') : SynP w' := by
  obtain ⟨tp, p, h⟩ := h
  exact ⟨tp, p, var_up h hb⟩
theorem bare_trim (l : List UInt8) : Lib.trimPrefix l [45] = bare l := by
  cases l with
  | nil => rfl
  | cons c r =>
    by_cases h : c = 45
    · subst h
      simp [Lib.trimPrefix, Lib.hasPrefix, bare, List.isPrefixOf]
    · have h' : ¬ (45 = c) := fun e => h e.symm
      simp [Lib.trimPrefix, Lib.hasPrefix, bare, List.isPrefixOf, h, h']
theorem parse_norange {s : List UInt8} (hl : (bare s).length ≤ 18) : parseIntB 64 s ≠ .range := by
  intro h
  have key : ∀ l : List UInt8, l.length ≤ 18 → parseUintB 64 l ≠ .range ∧ ∀ u, parseUintB 64 l = .ok u → u < 1000000000000000000 := by
    intro l h18
    unfold parseUintB
    by_cases h0 : l = []
    · rw [if_pos h0]; exact ⟨by simp, fun u hu => by simp at hu⟩
    · rw [if_neg h0, show (2 ^ 64 - 1 : Nat) = 18446744073709551615 from rfl]
      rcases hd : l.all isDig with _ | _
      · rw [parseM_bad l 0 0 (by decide) (by omega) hd]
        exact ⟨by simp, fun u hu => by simp at hu⟩
      · rw [parseM_dig l 0 0 (by decide) (by omega) hd]
        refine ⟨by simp, fun u hu => ?_⟩
        injection hu with hu
        have := valD_lt hd h18
        show u < _
        have e : valF 0 l = valD l := rfl
        omega
  cases s with
  | nil => simp [parseIntB] at h
  | cons c r =>
    by_cases hp : c.toNat = 43
    · have hc : c = 43 := by rw [← UInt8.toNat_inj]; exact hp
      subst hc
      have hl' : r.length ≤ 18 := by simp [bare] at hl; omega
      obtain ⟨k1, k2⟩ := key r hl'
      unfold parseIntB at h
      simp only [hp, true_or, if_true] at h
      rcases hu : parseUintB 64 r with u | _ | _
      · rw [hu] at h
        have := k2 u hu
        simp only at h
        rw [if_neg (by show ¬ (_ ∧ 2 ^ 63 ≤ u); omega), if_neg (by simp)] at h
        cases h
      · rw [hu] at h; cases h
      · exact k1 hu
    · by_cases hm : c.toNat = 45
      · have hc : c = 45 := by rw [← UInt8.toNat_inj]; exact hm
        subst hc
        have hl' : r.length ≤ 18 := by simpa [bare] using hl
        obtain ⟨k1, k2⟩ := key r hl'
        unfold parseIntB at h
        simp only [hm, or_true, if_true] at h
        rcases hu : parseUintB 64 r with u | _ | _
        · rw [hu] at h
          have := k2 u hu
          simp only at h
          rw [if_neg (by simp), if_neg (by show ¬ (_ ∧ 2 ^ 63 < u); omega)] at h
          cases h
        · rw [hu] at h; cases h
        · exact k1 hu
      · have hc : c ≠ 45 := fun hh => hm (by rw [hh]; rfl)
        have hl' : (c :: r).length ≤ 18 := by simpa [bare, hc] using hl
        obtain ⟨k1, k2⟩ := key (c :: r) hl'
        unfold parseIntB at h
        simp only [hp, hm, or_self, if_false] at h
        rcases hu : parseUintB 64 (c :: r) with u | _ | _
        · rw [hu] at h
          have := k2 u hu
          simp only at h
          rw [if_neg (by show ¬ (_ ∧ 2 ^ 63 ≤ u); omega), if_neg (by simp)] at h
          cases h
        · rw [hu] at h; cases h
        · exact k1 hu
theorem trim_any (s : ByteArray) (w : World) :
    Calls Tryz.prog 77 #[.string s, .string ⟨#[45]⟩] w fun e w' => e = .returned (.string (asBytes (bare s.data.toList))) ∧ w = w' := by
  refine (Tryz.strings_TrimPrefix s ⟨#[45]⟩ w).mono ?_
  rintro e w' ⟨rfl, rfl⟩
  refine ⟨?_, rfl⟩
  rw [show (⟨#[45]⟩ : ByteArray).data.toList = [45] from rfl, bare_trim]
  rfl

set_option maxHeartbeats 4000000 in
set_option maxRecDepth 100000 in
theorem readDecimal_any (s : ByteArray) (w : World) (hs : s.size ≤ 281474976710656) (ht : TabP w) (hv : SynP w) :
    Calls Tryz.prog 34 #[.string s] w fun e w' => e = .returned (.tuple #[.int .i64 (readN s.data.toList).1, .bool (readN s.data.toList).2]) ∧ Below w.heap.size w w' := by
  have HT := Lib.hid ht
  have HV := Lib.hid hv
  have hsl := Lib.hid (show s.data.toList.length = s.size by rw [Array.length_toList]; rfl)
  clear ht hv
  by_cases h19 : 19 < s.size
  · have hg : decide ((19 : Int) < (s.size : Int)) = true := decide_eq_true (by omega)
    have HO := Lib.hid (readN_no (isDec_long (s := s.data.toList) (by have := (bare_len s.data.toList).2; have := hsl.out; omega)))
    go_enter Tryz.func34, Tryz.ntmps34
    go_wp2
    go_ret2
    rw [HO.out]
    exact ⟨rfl, Below.refl _ _⟩
  · have hg : decide ((19 : Int) < (s.size : Int)) = false := decide_eq_false (by omega)
    by_cases h18 : 18 < (bare s.data.toList).length
    · have hg2 : decide ((18 : Int) < ((asBytes (bare s.data.toList)).size : Int)) = true := decide_eq_true (by rw [asBytes_size]; omega)
      have HO := Lib.hid (readN_no (isDec_long h18))
      clear h18
      go_enter Tryz.func34, Tryz.ntmps34
      go_wp2_with (first | (go_at_call 77; refine (trim_any _ _).mono ?_; rintro e w2 ⟨rfl, rfl⟩) | fail "t")
      go_ret2
      rw [HO.out]
      exact ⟨rfl, Below.refl _ _⟩
    · have hg2 : decide ((18 : Int) < ((asBytes (bare s.data.toList)).size : Int)) = false := decide_eq_false (by rw [asBytes_size]; omega)
      have hb18 : (bare s.data.toList).length ≤ 18 := by omega
      rcases hp : Lib.parseIntB 64 s.data.toList with v | _ | _
      · have hpo := Lib.hid (parse_ok hb18 hp)
        have HP := Lib.hid hp
        have hvb : -9223372036854775808 ≤ v ∧ v ≤ 9223372036854775807 := by
          have h9 := Lib.parseIntB_bounds hp
          have e9 : ((2 ^ (64 - 1) : Nat) : Int) = 9223372036854775808 := by decide
          rw [e9] at h9
          omega
        rcases hq : ((asBytes (itoa v)).toList == s.toList) with _ | _
        · have HO := Lib.hid (readN_no (hpo.out.2 (fun e => by rw [Go.ByteArray.toList_eq, Go.ByteArray.toList_eq, data_asBytes, e] at hq; simp at hq)))
          have hq' : ((asBytes (itoa v)).toList != s.toList) = true := by simp only [bne, hq]; rfl
          clear hp h18 hb18
          go_enter Tryz.func34, Tryz.ntmps34
          go_wp2_with (first | (go_at_call 77; refine (trim_any _ _).mono ?_; rintro e w2 ⟨rfl, rfl⟩) | fail "t")
          refine (Tryz.strconv_ParseInt_10_at64_ok s (by omega) v HP.out _).mono ?_
          rintro e w2 ⟨rfl, hw2⟩
          have b2 : Below w.heap.size w w2 := by
            rcases hw2 with rfl | ⟨t, rfl⟩
            · exact Below.refl _ _
            · exact Lib.bytesWorld_below _ _ _
          have H2 := Lib.hid b2
          clear hw2 b2
          go_wp2_with fail
          refine (decimal_any v _ hvb.1 hvb.2 (tabUp HT.out H2.out)).mono ?_
          rintro e w3 ⟨rfl, b3⟩
          have H3 := Lib.hid (bnext H2.out b3 (Nat.le_refl _))
          clear b3
          go_wp2
          go_ret2
          rw [HO.out]
          exact ⟨rfl, H3.out⟩
        · have he : itoa v = s.data.toList := by
            rw [Go.ByteArray.toList_eq, Go.ByteArray.toList_eq, data_asBytes] at hq
            simpa using hq
          have HO := Lib.hid (show readN s.data.toList = (v, true) by
            obtain ⟨h1, h2⟩ := hpo.out.1 he
            rw [readN_yes h1, h2])
          have hq' : ((asBytes (itoa v)).toList != s.toList) = false := by simp only [bne, hq]; rfl
          clear hp h18 hb18 he
          go_enter Tryz.func34, Tryz.ntmps34
          go_wp2_with (first | (go_at_call 77; refine (trim_any _ _).mono ?_; rintro e w2 ⟨rfl, rfl⟩) | fail "t")
          refine (Tryz.strconv_ParseInt_10_at64_ok s (by omega) v HP.out _).mono ?_
          rintro e w2 ⟨rfl, hw2⟩
          have b2 : Below w.heap.size w w2 := by
            rcases hw2 with rfl | ⟨t, rfl⟩
            · exact Below.refl _ _
            · exact Lib.bytesWorld_below _ _ _
          have H2 := Lib.hid b2
          clear hw2 b2
          go_wp2_with fail
          refine (decimal_any v _ hvb.1 hvb.2 (tabUp HT.out H2.out)).mono ?_
          rintro e w3 ⟨rfl, b3⟩
          have H3 := Lib.hid (bnext H2.out b3 (Nat.le_refl _))
          clear b3
          go_wp2
          go_ret2
          rw [HO.out]
          exact ⟨rfl, H3.out⟩
      · have HO := Lib.hid (readN_no (parse_syntax hb18 hp))
        have HP := Lib.hid hp
        obtain ⟨tp, pp, hvar⟩ := HV.out
        have HVa := Lib.hid hvar
        clear hp h18 hb18 hvar
        go_enter Tryz.func34, Tryz.ntmps34
        go_wp2_with (first | (go_at_call 77; refine (trim_any _ _).mono ?_; rintro e w2 ⟨rfl, rfl⟩) | fail "t")
        refine (Tryz.strconv_ParseInt_10_at64_syntax_var s hs HP.out tp pp _ HVa.out).mono ?_
        rintro e w2 ⟨N, rfl, hN, hblk, b2⟩
        have H2 := Lib.hid b2
        clear b2 hblk hN
        go_wp2
        go_ret2
        rw [HO.out]
        exact ⟨rfl, H2.out⟩
      · exact absurd hp (fun h => by
          have := parse_norange hb18
          exact this h)
end Go.Proofs.YtjalgpioklcbfaaGreatDoor
namespace Go.Proofs.YtjalgpioklcbfaaGreatDoor
open Go.RowKit Go.ChangeShapes Go.WideShapes Go.Deep

structure Dk where
  net : Nt
  times : List Int
  runs : List Rn
  log : ByteArray
/-- Where the desk's lists lie. -/
structure DkH where
  A1 : Option Addr
  n1 : Nat
  c1 : Nat
  A2 : Option Addr
  n2 : Nat
  c2 : Nat
  A3 : Option Addr
  n3 : Nat
  c3 : Nat
def dkv (h : DkH) (d : Dk) : Value := .agg #[.int .i64 d.net.sta, .slice h.A1 h.n1 h.c1, .slice h.A2 h.n2 h.c2, .slice h.A3 h.n3 h.c3, .string d.log]
structure DkR (w : World) (B : Nat) (h : DkH) (d : Dk) : Prop where
  tubes : Reads w B 3 h.A1 h.n1 (tbs d.net.tubes)
  times : Reads w B 1 h.A2 h.n2 (ints d.times)
  runs : RunsR w B h.A3 h.n3 d.runs
structure DkH.ok (h : DkH) : Prop where
  n1 : h.n1 ≤ 9223372036854775807
  n2 : h.n2 ≤ 9223372036854775807
  n3 : h.n3 ≤ 9223372036854775807
structure DkS (h : DkH) (d : Dk) : Prop where
  n1 : h.n1 ≤ 1048576
  n2 : h.n2 ≤ 1048576
  n3 : h.n3 ≤ 1048576
  runs : SmallR d.runs
  log : d.log.size ≤ 1048576
theorem DkR.on {w w' : World} {B : Nat} {h : DkH} {d : Dk} (hr : DkR w B h d) (hB : B ≤ w.heap.size) (hb : Below w.heap.size w w') : DkR w' B h d := ⟨hr.tubes.on hB hb, hr.times.on hB hb, hr.runs.on hB hb⟩
theorem DkR.more {w : World} {B B' : Nat} {h : DkH} {d : Dk} (hr : DkR w B h d) (hB : B ≤ B') : DkR w B' h d := ⟨hr.tubes.more hB, hr.times.more hB, hr.runs.more hB⟩

section
variable {H : Type} {enc : TypeId × Value → H} {w : World}
end
end Go.Proofs.YtjalgpioklcbfaaGreatDoor
namespace Go.Proofs.YtjalgpioklcbfaaGreatDoor
open Go.RowKit Go.Lib
variable {H : Type} {enc : TypeId × Value → H}

theorem returnsIn_shaped {a : Assume} {C : Checked} {os : Os} {f : FuncId} {fn : Func} {s : ChangeSpec} {conds : List PathCond} {apart fresh handsOn again : Bool} {X : World → Array Value → Prop}
    (hX : ∀ (w w' : World) (args : Array Value), w.heap = w'.heap → X w args → X w' args)
    (own : ownKnob C.prog.godebug = none) (started : os.Started) (noInit : C.prog.inits.idxOf? f = none) (hfn : C.prog.funcs[f]? = some fn)
    (witness : ∃ (w : World) (tape : Tape) (i : Input), w.os = os ∧ (w.forCall tape i).Shaped C.prog ∧ i.vars = [] ∧ Input.okWide C.prog (w.forCall tape i) .any w.heap.size f i ∧
      ((s.pre enc C.prog fn conds apart (w.forCall tape i).memory i.args ∧ X (w.forCall tape i).memory i.args) ∧ sizedMet enc C.prog fn (OpenSpec.ofChange s) apart (w.forCall tape i).memory i.args) ∧ a.holds C.prog (lone (Frame.enter C.prog f i.args .normal) [] (w.forCall tape i)))
    (contract : ∀ (W : World) (base : Nat) (args : Array Value) (ds gs : List (DataW H)) (before : List MemPlace),
      (∀ (j : Nat) t v, fn.params[j]? = some t → args[j]? = some v → Value.okWide C.prog W .any base t v) →
      DataW.Whole enc C.prog fn.params.toList s.vars apart W args.toList ds gs before →
      W.ShapedOpen C.prog → X W args →
      Calls C.prog f args W fun e W' => ∃ v, e = .returned v ∧ s.post enc C.prog fn apart fresh handsOn again W args v W') :
    ReturnsInHanded a C os f .any (fun w args => (s.pre enc C.prog fn conds apart w args ∧ X w args) ∧ sizedMet enc C.prog fn (OpenSpec.ofChange s) apart w args) (s.post enc C.prog fn apart fresh handsOn again) := by
  refine returnsInHanded_of_calls own started noInit witness ?_
  intro w tape i _ hsh _ hok hpre _
  obtain ⟨_, _, _, fn2, hfn2, _, _, _, _, hval⟩ := hok
  obtain rfl : fn2 = fn := Option.some.inj (hfn2.symm.trans hfn)
  obtain ⟨⟨⟨ds, gs, before, hw, hc⟩, hx⟩, hz⟩ := hpre
  refine (contract (w.forCall tape i) w.heap.size i.args ds gs before hval (DataW.Whole.of_heap (w' := w.forCall tape i) (by rfl) hw) hsh (hX _ _ _ (by rfl) hx)).mono fun e W' ⟨v, he, hp⟩ => ?_
  subst he
  exact ChangeSpec.post_blind hp

theorem maxLen_of {W : World} (h : W.ShapedOpen Tryz.prog) : ∃ m, W.cell? ⟨1, 0, none⟩ = some (.int .i64 m) :=
  cell_of_shapedOpen_int (g := 1) (t := 3) h (of_decide_eq_true (by kernel_rfl)) (show _ = some (#[.int .i64 0], 3) by kernel_rfl) rfl (by kernel_rfl) (by kernel_rfl) Tryz.underlying3
theorem star_err : "*" ++ "errors.errorString" = "*errors.errorString" := by decide
theorem err_row (u : TypeId) (h : Tryz.prog.typeName? 3 u = some "*errors.errorString") : u = 316 :=
  typeName_ptr_named (nm := "errors.errorString") (by rw [star_err]; kernel_rfl) (by kernel_rfl) (by decide) u (by rw [star_err]; exact h)
theorem syn_of {r : List (String × DataW Unit)} {W : World} {text : List UInt8} (h : laidMet Tryz.prog (("strconv.ErrSyntax", .iface "*errors.errorString" (.ptr (.agg [.lit (.string text)]))) :: r) W) : SynP W := by
  obtain ⟨a, s, h1, _⟩ := laid_sentinel (g := 2) (ti := 110) (tp := 316) (te := 318) (ts := 9) h (by kernel_rfl) (by kernel_rfl) Tryz.underlying110 err_row Tryz.underlying316 Tryz.underlying318 rfl rfl Tryz.underlying9 (by kernel_rfl) (by kernel_rfl)
  exact ⟨_, _, h1⟩
end Go.Proofs.YtjalgpioklcbfaaGreatDoor
namespace Go.Proofs.YtjalgpioklcbfaaGreatDoor
open Go.RowKit

end Go.Proofs.YtjalgpioklcbfaaGreatDoor
namespace Go.Proofs.YtjalgpioklcbfaaGreatDoor
open Go.RowKit

end Go.Proofs.YtjalgpioklcbfaaGreatDoor
namespace Go.Proofs.YtjalgpioklcbfaaGreatDoor
open Go.RowKit

/-- A tube of a net with s stations. -/
def okTb (s : Int) (t : Tb) : Bool := inR t.from_ 0 (s - 1) && (inR t.to_ 0 (s - 1) && (t.from_ != t.to_ && inR t.len 1 2000))

theorem isStation_any (s k : Int) (A : Option Addr) (n c : Nat) (w : World) (h0 : 2 ≤ s) (h1 : s ≤ 10) :
    Calls Tryz.prog 193 #[.agg #[.int .i64 s, .slice A n c], .int .i64 k] w fun e w' => e = .returned (.bool (inR k 0 (s - 1))) ∧ Below w.heap.size w w' := by
  go_enter Tryz.func193, Tryz.ntmps193
  go_wp2_with fail
  refine (within_any _ _ _ _).mono ?_
  rintro e w1 ⟨rfl, rfl⟩
  go_wp2
  go_ret
  exact ⟨rfl, (Below.refl _ _).alloc (Nat.le_refl _) _⟩


set_option maxHeartbeats 2000000 in
theorem isTube_any (s : Int) (t : Tb) (A : Option Addr) (n c : Nat) (w : World) (h0 : 2 ≤ s) (h1 : s ≤ 10) :
    Calls Tryz.prog 132 #[.agg #[.int .i64 s, .slice A n c], .agg #[.int .i64 t.from_, .int .i64 t.to_, .int .i64 t.len]] w fun e w' => e = .returned (.bool (okTb s t)) ∧ Below w.heap.size w w' := by
  obtain ⟨W, hW, hz, k0, k1, hb⟩ := two_al w #[.int .i64 s, .slice A n c] #[.int .i64 t.from_, .int .i64 t.to_, .int .i64 t.len] 28 101
  have HW := Lib.hid hW
  have HB := Lib.hid hb
  have HK0 := Lib.hid k0
  have HK1 := Lib.hid k1
  clear hW hb k0 k1 hz
  go_enter Tryz.func132, Tryz.ntmps132
  go_wp2_with fail
  rw [← HW.out]
  refine (isStation_any s t.from_ A n c W h0 h1).mono ?_
  rintro e w1 ⟨rfl, b1⟩
  have HB1 := Lib.hid (bnext HB.out b1 (Nat.le_refl _))
  have L0 := Lib.hid (HK0.out.on b1)
  have L1 := Lib.hid (HK1.out.on b1)
  clear b1
  have a0 := L0.out.cellAt 0 (by simp)
  have a1 := L0.out.cellAt 1 (by simp)
  have c0 := L1.out.cellAt 0 (by simp)
  have c1 := L1.out.cellAt 1 (by simp)
  have c2 := L1.out.cellAt 2 (by simp)
  simp only [List.getElem_toArray, List.getElem_cons_zero, List.getElem_cons_succ] at a0 a1 c0 c1 c2
  rcases e1 : inR t.from_ 0 (s - 1) with _ | _
  · have HO := Lib.hid (show okTb s t = false by simp [okTb, e1])
    go_wp2
    go_ret
    exact ⟨ret_bool HO.out.symm, HB1.out⟩
  go_wp2_with fail
  refine (isStation_any s t.to_ A n c w1 h0 h1).mono ?_
  rintro e w2 ⟨rfl, b2⟩
  have HB2 := Lib.hid (bnext HB1.out b2 (Nat.le_refl _))
  have M1 := Lib.hid (L1.out.on b2)
  clear b2 a0 a1 c0 c1 c2
  have c0 := M1.out.cellAt 0 (by simp)
  have c1 := M1.out.cellAt 1 (by simp)
  have c2 := M1.out.cellAt 2 (by simp)
  simp only [List.getElem_toArray, List.getElem_cons_zero, List.getElem_cons_succ] at c0 c1 c2
  rcases e2 : inR t.to_ 0 (s - 1) with _ | _
  · have HO := Lib.hid (show okTb s t = false by simp [okTb, e2])
    go_wp2
    go_ret
    exact ⟨ret_bool HO.out.symm, HB2.out⟩
  rcases e3 : (t.from_ != t.to_) with _ | _
  · have HO := Lib.hid (show okTb s t = false by simp [okTb, e3])
    go_wp2
    go_ret
    exact ⟨ret_bool HO.out.symm, HB2.out⟩
  have HO := Lib.hid (show okTb s t = inR t.len 1 2000 by simp [okTb, e1, e2, e3])
  go_wp2_with fail
  refine (within_any _ _ _ _).mono ?_
  rintro e w3 ⟨rfl, rfl⟩
  rw [← HO.out]
  go_wp2
  go_ret
  exact ⟨rfl, HB2.out⟩


theorem validNet1_any (s : Int) (t : Tb) (A : Option Addr) (n c g : Nat) (w : World) (h0 : 2 ≤ s) (h1 : s ≤ 10) (c0 : w.cell? ⟨g, 0, none⟩ = some (.int .i64 s)) (c1 : w.cell? ⟨g, 1, none⟩ = some (.slice A n c)) :
    Calls Tryz.prog 131 #[.agg #[.int .i64 t.from_, .int .i64 t.to_, .int .i64 t.len], .pointer (some ⟨g, 0, none⟩)] w fun e w' => e = .returned (.bool (!okTb s t)) ∧ Below w.heap.size w w' := by
  have hg := World.block_lt_of_cell? w _ c0
  obtain ⟨W, hW, k0, hb⟩ : ∃ W, W = w.alloc (.cells #[.int .i64 t.from_, .int .i64 t.to_, .int .i64 t.len] 101) ∧ Blk W w.heap.size 101 #[.int .i64 t.from_, .int .i64 t.to_, .int .i64 t.len] ∧ Below w.heap.size w W := ⟨_, rfl, Blk.new _ _ _, (Below.refl _ _).alloc (Nat.le_refl _) _⟩
  have HW := Lib.hid hW
  have HB := Lib.hid hb
  replace c0 := cell_on hb c0
  replace c1 := cell_on hb c1
  have d0 := k0.cellAt 0 (by simp)
  have d1 := k0.cellAt 1 (by simp)
  have d2 := k0.cellAt 2 (by simp)
  simp only [List.getElem_toArray, List.getElem_cons_zero, List.getElem_cons_succ] at d0 d1 d2
  clear hW hb k0
  go_enter Tryz.func131, Tryz.ntmps131
  go_upto_region 1 with fail
  rw [← HW.out]
  go_wp2_with fail
  refine (isTube_any s t A n c W h0 h1).mono ?_
  rintro e w1 ⟨rfl, b1⟩
  go_wp2
  go_ret
  exact ⟨rfl, bnext HB.out b1 (Nat.le_refl _)⟩

theorem l02Tube_any (s : Int) (t : Tb) (w : World) (h0 : 2 ≤ s) (h1 : s ≤ 10) :
    Calls Tryz.prog 165 #[.agg #[.int .i64 t.from_, .int .i64 t.to_, .int .i64 t.len], .int .i64 s] w fun e w' => e = .returned (.bool (okTb s t)) ∧ Below w.heap.size w w' := by
  rcases e1 : inR t.from_ 0 (s - 1) with _ | _
  · have HO := Lib.hid (show okTb s t = false by simp [okTb, e1])
    go_enter Tryz.func165, Tryz.ntmps165
    go_wp2_with (go_at_call 164; refine (l00In_any _ _ _ _).mono ?_; rintro e w' ⟨rfl, rfl⟩)
    go_ret
    exact ⟨ret_bool HO.out.symm, (Below.refl _ _).alloc (Nat.le_refl _) _⟩
  rcases e2 : inR t.to_ 0 (s - 1) with _ | _
  · have HO := Lib.hid (show okTb s t = false by simp [okTb, e2])
    go_enter Tryz.func165, Tryz.ntmps165
    go_wp2_with (go_at_call 164; refine (l00In_any _ _ _ _).mono ?_; rintro e w' ⟨rfl, rfl⟩)
    go_ret
    exact ⟨ret_bool HO.out.symm, (Below.refl _ _).alloc (Nat.le_refl _) _⟩
  rcases e3 : (t.from_ != t.to_) with _ | _
  · have HO := Lib.hid (show okTb s t = false by simp [okTb, e3])
    go_enter Tryz.func165, Tryz.ntmps165
    go_wp2_with (go_at_call 164; refine (l00In_any _ _ _ _).mono ?_; rintro e w' ⟨rfl, rfl⟩)
    go_ret
    exact ⟨ret_bool HO.out.symm, (Below.refl _ _).alloc (Nat.le_refl _) _⟩
  have HO := Lib.hid (show okTb s t = inR t.len 1 2000 by simp [okTb, e1, e2, e3])
  go_enter Tryz.func165, Tryz.ntmps165
  go_wp2_with (go_at_call 164; refine (l00In_any _ _ _ _).mono ?_; rintro e w' ⟨rfl, rfl⟩)
  go_ret
  exact ⟨ret_bool HO.out.symm, (Below.refl _ _).alloc (Nat.le_refl _) _⟩

end Go.Proofs.YtjalgpioklcbfaaGreatDoor
