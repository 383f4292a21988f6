/- The reference's l01Split: the parts of a text between bytes c. What is read of a log: the plain law. A client read from a text: the plain law. Numbers read from texts, as the reference says it. ReadClient, as the reference does it. Clients: the tests of a list of clients. Clients: who is active on a day, and the quota of a station. Clients: the quota of a station on a day. Clients: the station with the greatest quota. Clients: a client found by name. Clients: slices.BinarySearchFunc at this program's clients. Clients: the code of a name, and the client of that name. The greater of zero and a number. Clients: what is left of a quota. Clients: lists of names. Clients: whose contracts end in a span. Clients: who is active on a day. What the law of the quotas asks of the answers, without the program; a word looked for in a list. Clients: a contract extended: the plain law. -/
import Derived.Test.YtjmlcobbjpmjpaaGreatDoorMgClientsAA
import Derived.WalkSpells
import Derived.IntWalk
import Derived.Deep.QuietTactic
import Derived.Deep.RegionWith
import Derived.Test.YtjmlcobbjpmjpaaGreatDoorProg
set_option linter.unusedVariables false
set_option linter.unusedSimpArgs false
namespace Go.Proofs.YtjmlcobbjpmjpaaGreatDoor
open Go.RowKit Go.Lib

theorem piece_data (s : ByteArray) (j k : Nat) : (s.extract j k).data.toList = (s.data.toList.drop j).take (k - j) := by
  simp [ByteArray.data_extract, Array.toList_extract, List.extract_eq_take_drop]
theorem split_step {s : ByteArray} {c : UInt8} {j k : Nat} (hn : c ∉ (s.extract j k).data.toList) (hj : j ≤ k) (hk : k < s.size) (hc : s[k] = c) :
    splitS c (s.extract j s.size) = s.extract j k :: splitS c (s.extract (k + 1) s.size) := by
  have hl := data_len s
  have e1 : s.data.toList.drop j = (s.data.toList.drop j).take (k - j) ++ c :: s.data.toList.drop (k + 1) := by
    have e2 : s.data.toList.drop k = c :: s.data.toList.drop (k + 1) := by
      rw [List.drop_eq_getElem_cons (by omega)]
      have := byte_at s k hk
      rw [List.getElem?_eq_getElem (by omega)] at this
      injection this with this
      rw [this, hc]
    rw [← e2]
    have e3 : s.data.toList.drop k = (s.data.toList.drop j).drop (k - j) := by
      rw [List.drop_drop]; congr 1; omega
    rw [e3, List.take_append_drop]
  unfold splitS
  rw [extract_to_end, extract_to_end, e1, ← piece_data, splitL_hit hn, List.map_cons, asBytes_data]
theorem no_step {s : ByteArray} {c : UInt8} {j k : Nat} (hn : c ∉ (s.extract j k).data.toList) (hj : j ≤ k) (hk : k < s.size) (hc : s[k] ≠ c) : c ∉ (s.extract j (k + 1)).data.toList := by
  have hl := data_len s
  rw [piece_data] at hn ⊢
  rw [show k + 1 - j = (k - j) + 1 by omega, List.take_succ_eq_append_getElem (by rw [List.length_drop]; omega)]
  intro h
  rcases List.mem_append.1 h with h | h
  · exact hn h
  · rw [List.mem_singleton, List.getElem_drop] at h
    have := byte_at s k hk
    rw [List.getElem?_eq_getElem (by omega)] at this
    injection this with this
    apply hc
    rw [h, ← this]
    congr 1
    omega
theorem no_start (s : ByteArray) (c : UInt8) (j : Nat) : c ∉ (s.extract j j).data.toList := by
  rw [piece_data]; simp
theorem split_end {s : ByteArray} {c : UInt8} (h : c ∉ s.data.toList) : splitS c s = [s] := by
  unfold splitS
  rw [splitL_none h, List.map_cons, asBytes_data, List.map_nil]
theorem whole_ (s : ByteArray) : s.extract 0 s.size = s := by
  have h := piece_data s 0 s.size
  rw [show s.size - 0 = s.data.toList.length by rw [data_len]; rfl, List.drop_zero, List.take_length] at h
  rw [← asBytes_data (s.extract 0 s.size), h, asBytes_data]
theorem info_strT : (Tryz.prog.info? 9).map (fun i => (i.zero, i.size, i.bytes)) = some (some (.string ⟨#[]⟩), 1, 16) := by kernel_rfl
theorem strs_snocT (l : List ByteArray) (x : ByteArray) : strs (l ++ [x]) = strs l ++ [.string x] := by simp [strs]

set_option maxHeartbeats 4000000 in
set_option maxRecDepth 100000 in
theorem l01Split_any (s : ByteArray) (c : UInt8) (w : World) (hs : s.size ≤ 1048576) :
    Calls Tryz.prog 111 #[.string s, .int .u8 (c.toNat : Int)] w fun e w' => ∃ A m d, e = .returned (.slice A m d) ∧ Sl w' w.heap.size w'.heap.size 9 1 A m d (strs (splitS c s)) ∧ Below w.heap.size w w' := by
  have acc0 := Acc.made w 9 1
  go_enter Tryz.func111, Tryz.ntmps111
  go_wp2
  go_loopw [5, 6, 7] (fun o f i wr => ∃ (k j : Nat) (A' : Option Addr) (m d : Nat) (ds : List ByteArray), j ≤ k ∧ k ≤ s.size ∧ i = .int .i64 k ∧ f = .int .i64 j ∧ o = .slice A' m d ∧ Acc w.heap.size w.heap.size 9 1 w wr A' m d (strs ds) ∧ splitS c s = ds ++ splitS c (s.extract j s.size) ∧ c ∉ (s.extract j k).data.toList ∧ ds.length ≤ j) (fun _ _ i _ => s.size - (intOf i).toNat)
  case atStart => exact ⟨0, 0, _, _, _, [], Nat.le_refl _, Nat.zero_le _, rfl, rfl, rfl, acc0, by rw [whole_]; rfl, no_start s c 0, Nat.le_refl _⟩
  case round =>
    obtain ⟨k, j, A', m, d, ds, hjk, hk, rfl, rfl, rfl, hacc, hsp, hno, hdl⟩ := hrel
    have HA := Lib.hid hacc
    have HS := Lib.hid hsp
    have HN := Lib.hid hno
    have hml : m ≤ s.size := by have h1 := hacc.len; rw [strs_length] at h1; omega
    clear acc0 hacc hsp hno
    have h0j : (0 : Int) ≤ (j : Int) := by omega
    have hjki : (j : Int) ≤ (k : Int) := by omega
    have hki : (k : Int) ≤ (s.size : Int) := by omega
    by_cases hlt : k < s.size
    · have hlti : (k : Int) < (s.size : Int) := by omega
      by_cases hc : s[k] = c
      · have hq : ((s[k].toNat : Int) == (c.toNat : Int)) = true := by rw [hc]; simp
        have HS2 := Lib.hid (show splitS c s = (ds ++ [s.extract j k]) ++ splitS c (s.extract (k + 1) s.size) by
          rw [HS.out, split_step HN.out hjk hlt hc, List.append_assoc]; rfl)
        clear hc
        go_wp2_with (at_builtin; refine wpList_acc rfl _ _ 36 rfl 9 _ 1 16 Tryz.underlying36 info_strT rfl (by decide) (by decide) HA.out (Nat.le_refl _) rfl [.string (s.extract j k)] rfl rfl (fun u hu => by simp at hu; subst hu; rfl) (by omega) ?_; intro A2 d2 w9 hacc2; have HA2 := Lib.hid hacc2; clear hacc2)
        go_roundw
        case rel => exact ⟨k + 1, k + 1, _, _, _, ds ++ [s.extract j k], Nat.le_refl _, by omega, by go_num, by go_num, rfl, by rw [strs_snocT]; exact HA2.out, HS2.out, no_start s c (k + 1), by simp; omega⟩
        case measure => simp [intOf]; omega
      · have hq : ((s[k].toNat : Int) == (c.toNat : Int)) = false := by
          rw [beq_eq_false_iff_ne]
          intro e
          exact hc (by rw [← UInt8.toNat_inj]; omega)
        have HN2 := Lib.hid (no_step HN.out hjk hlt hc)
        clear hc
        go_wp2
        go_roundw
        case rel => exact ⟨k + 1, j, _, _, _, ds, by omega, by omega, by go_num, rfl, rfl, HA.out, HS.out, HN2.out, hdl⟩
        case measure => simp [intOf]; omega
    · obtain rfl : k = s.size := by omega
      have hkk : ¬ ((s.size : Int) < (s.size : Int)) := by omega
      have HS2 := Lib.hid (show splitS c s = ds ++ [s.extract j s.size] by rw [HS.out, split_end HN.out])
      go_wp2_with (at_builtin; refine wpList_acc rfl _ _ 36 rfl 9 _ 1 16 Tryz.underlying36 info_strT rfl (by decide) (by decide) HA.out (Nat.le_refl _) rfl [.string (s.extract j s.size)] rfl rfl (fun u hu => by simp at hu; subst hu; rfl) (by omega) ?_; intro A2 d2 w9 hacc2; have HA2 := Lib.hid hacc2; clear hacc2)
      go_ret
      refine ⟨_, _, _, rfl, ?_, HA2.out.below (Nat.le_refl _) (Nat.le_refl _)⟩
      rw [HS2.out, strs_snocT]
      exact HA2.out.sl (Nat.le_refl _) (Nat.le_refl _)
end Go.Proofs.YtjmlcobbjpmjpaaGreatDoor
namespace Go.Proofs.YtjmlcobbjpmjpaaGreatDoor
open Go.RowKit Go.Lib

/-- The entry and the stamp of four words. -/
def wordsF (a b c d : ByteArray) : Option (En × Int) :=
  if (isDec a.data.toList && isDec c.data.toList && isDec d.data.toList && okEn ⟨numS a.data.toList, b, numS c.data.toList⟩) = true then some (⟨numS a.data.toList, b, numS c.data.toList⟩, numS d.data.toList) else none
/-- The entry and the stamp of a line. -/
def lineF (line : ByteArray) : Option (En × Int) := match splitS 32 line with
  | [a, b, c, d] => wordsF a b c d
  | _ => none
theorem lineF_four {line a b c d : ByteArray} (h : splitS 32 line = [a, b, c, d]) : lineF line = wordsF a b c d := by simp [lineF, h]
theorem lineF_other {line : ByteArray} (h : (splitS 32 line).length ≠ 4) : lineF line = none := by
  unfold lineF
  split
  · rename_i e; rw [e] at h; simp at h
  · rfl
theorem four_of {α : Type} {l : List α} (h : l.length = 4) : ∃ a b c d, l = [a, b, c, d] := by
  match l, h with
  | [a, b, c, d], _ => exact ⟨a, b, c, d, rfl⟩
theorem wordsF_yes {a b c d : ByteArray} (h1 : isDec a.data.toList = true) (h2 : isDec c.data.toList = true) (h3 : isDec d.data.toList = true) (h4 : okEn ⟨numS a.data.toList, b, numS c.data.toList⟩ = true) :
    wordsF a b c d = some (⟨numS a.data.toList, b, numS c.data.toList⟩, numS d.data.toList) := by simp [wordsF, h1, h2, h3, h4]
theorem wordsF_no1 {a b c d : ByteArray} (h : isDec a.data.toList = false) : wordsF a b c d = none := by simp [wordsF, h]
theorem wordsF_no2 {a b c d : ByteArray} (h : isDec c.data.toList = false) : wordsF a b c d = none := by simp [wordsF, h]
theorem wordsF_no3 {a b c d : ByteArray} (h : isDec d.data.toList = false) : wordsF a b c d = none := by simp [wordsF, h]
theorem wordsF_no4 {a b c d : ByteArray} (h : okEn ⟨numS a.data.toList, b, numS c.data.toList⟩ = false) : wordsF a b c d = none := by simp [wordsF, h]

structure LogR where
  list : List En
  stamp : Int
  at_ : Nat
def dayR (l : List En) : Int := match l.getLast? with
  | none => 0
  | some x => x.day
def stepF (r : LogR) (line : ByteArray) : Option LogR := match lineF line with
  | none => none
  | some (e, st) => if (decide (dayR r.list ≤ e.day) && (stampW r.stamp (wordsB e) == st)) = true then some ⟨r.list ++ [e], st, r.at_ + line.size + 1⟩ else none
def logGo : List ByteArray → LogR → LogR
  | [], r => r
  | [_], r => r
  | l :: m :: t, r => match stepF r l with
    | none => r
    | some r' => logGo (m :: t) r'
def logR (s : ByteArray) : LogR := logGo (splitS 10 s) ⟨[], 0, 0⟩
theorem splitS_ne (c : UInt8) (s : ByteArray) : splitS c s ≠ [] := by
  intro h
  have := splitS_len c s
  rw [h] at this
  cases this
theorem logGo_miss {s : ByteArray} {r : LogR} (h : (10 : UInt8) ∉ s.data.toList) : logGo (splitS 10 s) r = r := by
  rw [split_end h]; rfl
/-- One line more. -/
theorem logGo_hit {s : ByteArray} {j k : Nat} {r : LogR} (hn : (10 : UInt8) ∉ (s.extract j k).data.toList) (hj : j ≤ k) (hk : k < s.size) (hc : s[k] = 10) :
    logGo (splitS 10 (s.extract j s.size)) r = match stepF r (s.extract j k) with
      | none => r
      | some r' => logGo (splitS 10 (s.extract (k + 1) s.size)) r' := by
  rw [split_step hn hj hk hc]
  rcases h : splitS 10 (s.extract (k + 1) s.size) with _ | ⟨m, t⟩
  · exact absurd h (splitS_ne _ _)
  · rfl
/-- The same, the text given by its parts. -/
theorem logGo_cut {s a : ByteArray} {t : List UInt8} {r : LogR} (he : s.data.toList = a.data.toList ++ 10 :: t) (hn : (10 : UInt8) ∉ a.data.toList) :
    logGo (splitS 10 s) r = match stepF r a with
      | none => r
      | some r' => logGo (splitS 10 (asBytes t)) r' := by
  have e : splitS 10 s = a :: splitS 10 (asBytes t) := by
    unfold splitS
    rw [he, splitL_hit hn, List.map_cons, asBytes_data, data_asBytes]
  rw [e]
  rcases h : splitS 10 (asBytes t) with _ | ⟨m, t'⟩
  · exact absurd h (splitS_ne _ _)
  · rfl
theorem rest_cut {s a : ByteArray} {j : Nat} {t : List UInt8} (hj : j ≤ s.size) (he : (s.extract j s.size).data.toList = a.data.toList ++ 10 :: t) : asBytes t = s.extract (j + a.size + 1) s.size ∧ j + a.size + 1 ≤ s.size := by
  have hl := data_len s
  have ha := data_len a
  rw [extract_to_end] at he
  have h1 := congrArg List.length he
  simp only [List.length_drop, List.length_append, List.length_cons] at h1
  refine ⟨?_, by omega⟩
  rw [← asBytes_data (s.extract (j + a.size + 1) s.size), extract_to_end]
  congr 1
  rw [show j + a.size + 1 = j + (a.size + 1) by omega, ← List.drop_drop, he, ← ha, ← List.drop_drop, List.drop_left]
  rfl
theorem stepF_none {r : LogR} {line : ByteArray} (h : lineF line = none) : stepF r line = none := by simp [stepF, h]
theorem stepF_day {r : LogR} {line : ByteArray} {e : En} {st : Int} (h : lineF line = some (e, st)) (h2 : ¬ (dayR r.list ≤ e.day)) : stepF r line = none := by simp [stepF, h, h2]
theorem stepF_stamp {r : LogR} {line : ByteArray} {e : En} {st : Int} (h : lineF line = some (e, st)) (h2 : stampW r.stamp (wordsB e) ≠ st) : stepF r line = none := by simp [stepF, h, h2]
theorem stepF_yes {r : LogR} {line : ByteArray} {e : En} {st : Int} (h : lineF line = some (e, st)) (h1 : dayR r.list ≤ e.day) (h2 : stampW r.stamp (wordsB e) = st) : stepF r line = some ⟨r.list ++ [e], st, r.at_ + line.size + 1⟩ := by simp [stepF, h, h1, h2]

theorem okEn_bd {x : En} (h : okEn x = true) : 0 ≤ x.day ∧ x.day ≤ 100000 ∧ isName x.what = true ∧ -1000000 ≤ x.val ∧ x.val ≤ 1000000 := by
  simp only [okEn, Bool.and_eq_true] at h
  have h1 := inR_true.1 h.1.1
  have h2 := inR_true.1 h.2
  exact ⟨h1.1, h1.2, h.1.2, h2.1, h2.2⟩
theorem okEn_what {x : En} (h : okEn x = true) : x.what.size ≤ 12 := by
  have := (okEn_bd h).2.2.1
  simp only [isName, Bool.and_eq_true, decide_eq_true_eq] at this
  omega
theorem okEn_good {x : En} (h : okEn x = true) : x.good := by
  have h1 := okEn_bd h
  have h2 := okEn_what h
  exact ⟨⟨by omega, by omega⟩, by omega, ⟨by omega, by omega⟩⟩
theorem okEn_small {x : En} (h : okEn x = true) : x.small := by
  have h2 := okEn_what h
  unfold En.small
  omega
theorem lineF_ok {line : ByteArray} {e : En} {st : Int} (h : lineF line = some (e, st)) : okEn e = true := by
  unfold lineF at h
  split at h
  · unfold wordsF at h
    split at h
    · rename_i h2
      simp only [Bool.and_eq_true] at h2
      injection h with h
      injection h with h h'
      subst h
      exact h2.2
    · cases h
  · cases h
theorem lineF_bd {line : ByteArray} {e : En} {st : Int} (h : lineF line = some (e, st)) : e.good ∧ e.small := ⟨okEn_good (lineF_ok h), okEn_small (lineF_ok h)⟩
theorem dayR_nil : dayR [] = 0 := rfl
theorem dayR_last {l : List En} {x : En} (h : l[l.length - 1]? = some x) : dayR l = x.day := by
  have h2 : l.getLast? = some x := by rw [List.getLast?_eq_getElem?]; exact h
  simp [dayR, h2]
/-- What holds of whatever has been read. -/
structure LogR.ok (r : LogR) : Prop where
  ok : ∀ x ∈ r.list, okEn x = true
  stamp0 : 0 ≤ r.stamp
  stamp1 : r.stamp ≤ 65518
  len : r.list.length ≤ r.at_
theorem LogR.ok_start : (⟨[], 0, 0⟩ : LogR).ok := ⟨fun x hx => by simp at hx, by simp, by simp, by simp⟩
theorem LogR.ok_step {r r' : LogR} {line : ByteArray} (h : r.ok) (hs : stepF r line = some r') : r'.ok ∧ r'.at_ = r.at_ + line.size + 1 ∧ ∃ e, r'.list = r.list ++ [e] ∧ okEn e = true := by
  rcases hl : lineF line with _ | ⟨e, st⟩
  · rw [stepF_none hl] at hs; cases hs
  · by_cases h1 : dayR r.list ≤ e.day
    · by_cases h2 : stampW r.stamp (wordsB e) = st
      · rw [stepF_yes hl h1 h2] at hs
        injection hs with hs
        subst hs
        have he := lineF_ok hl
        have hb := stampW_bd r.stamp (wordsB e)
        refine ⟨⟨fun x hx => ?_, by rw [← h2]; exact hb.1, by rw [← h2]; exact hb.2, ?_⟩, rfl, e, rfl, he⟩
        · rcases List.mem_append.1 hx with hx | hx
          · exact h.ok x hx
          · rw [List.mem_singleton] at hx; subst hx; exact he
        · have := h.len
          simp only [List.length_append, List.length_singleton]
          omega
      · rw [stepF_stamp hl h2] at hs; cases hs
    · rw [stepF_day hl h1] at hs; cases hs
theorem logGo_ok : ∀ (l : List ByteArray) (r : LogR), r.ok → (logGo l r).ok
  | [], r, h => h
  | [_], r, h => h
  | a :: m :: t, r, h => by
    rw [logGo]
    rcases hs : stepF r a with _ | r'
    · exact h
    · exact logGo_ok (m :: t) r' (LogR.ok_step h hs).1
theorem logR_ok (s : ByteArray) : (logR s).ok := logGo_ok _ _ LogR.ok_start
def piecesLen : List ByteArray → Nat
  | [] => 0
  | [x] => x.size
  | x :: y :: t => x.size + 1 + piecesLen (y :: t)
theorem piecesLen_split (c : UInt8) : ∀ l : List UInt8, piecesLen ((splitL c l).map asBytes) = l.length
  | [] => rfl
  | x :: r => by
    have ih := piecesLen_split c r
    rw [splitL]
    by_cases h : x = c
    · subst h
      rw [if_pos rfl]
      have hne := splitL_ne x r
      revert ih hne
      cases splitL x r with
      | nil => intro _ hne; exact absurd rfl hne
      | cons y t =>
        intro ih _
        rw [List.map_cons] at ih
        rw [List.map_cons, List.map_cons, piecesLen, ih, asBytes_size, List.length_cons]
        simp; omega
    · rw [if_neg h]
      have hne := splitL_ne c r
      revert ih hne
      cases splitL c r with
      | nil => intro _ hne; exact absurd rfl hne
      | cons y t =>
        intro ih _
        cases t with
        | nil =>
          simp only [List.map_cons, List.map_nil, piecesLen, asBytes_size] at ih ⊢
          simp [ih]
        | cons z u =>
          simp only [List.map_cons, piecesLen, asBytes_size, List.length_cons] at ih ⊢
          omega
theorem logGo_at : ∀ (l : List ByteArray) (r : LogR), (logGo l r).at_ ≤ r.at_ + piecesLen l
  | [], r => by simp [logGo, piecesLen]
  | [_], r => by simp [logGo]
  | a :: m :: t, r => by
    rw [logGo, piecesLen]
    rcases hs : stepF r a with _ | r'
    · simp only; omega
    · have h2 : r'.at_ = r.at_ + a.size + 1 := by
        rcases hl : lineF a with _ | ⟨e, st⟩
        · rw [stepF_none hl] at hs; cases hs
        · by_cases h1 : dayR r.list ≤ e.day
          · by_cases h2 : stampW r.stamp (wordsB e) = st
            · rw [stepF_yes hl h1 h2] at hs
              injection hs with hs
              subst hs
              rfl
            · rw [stepF_stamp hl h2] at hs; cases hs
          · rw [stepF_day hl h1] at hs; cases hs
      have := logGo_at (m :: t) r'
      simp only
      omega
theorem logR_at (s : ByteArray) : (logR s).at_ ≤ s.size := by
  have h := logGo_at (splitS 10 s) ⟨[], 0, 0⟩
  have h2 := piecesLen_split 10 s.data.toList
  unfold splitS at h
  rw [h2, data_len] at h
  unfold logR splitS
  simpa using h
/-- The text of a line with its newline. -/
def lineB (st : Int) (e : En) : ByteArray := wordsB e ++ ⟨#[32]⟩ ++ asBytes (itoa st) ++ ⟨#[10]⟩
theorem data_app (a b : ByteArray) : (a ++ b).data.toList = a.data.toList ++ b.data.toList := by simp
theorem wordsB_data (e : En) : (wordsB e).data.toList = itoa e.day ++ 32 :: (e.what.data.toList ++ 32 :: itoa e.val) := by
  simp [wordsB, data_asBytes]
theorem lineB_data (st : Int) (e : En) : (lineB st e).data.toList = itoa e.day ++ 32 :: (e.what.data.toList ++ 32 :: (itoa e.val ++ 32 :: (itoa st ++ [10]))) := by
  simp [lineB, wordsB, data_asBytes]
theorem bytes_ext {a b : ByteArray} (h : a.data.toList = b.data.toList) : a = b := by
  rw [← asBytes_data a, h, asBytes_data]
theorem four_data {line a b c d : ByteArray} (h : splitS 32 line = [a, b, c, d]) : line.data.toList = a.data.toList ++ 32 :: (b.data.toList ++ 32 :: (c.data.toList ++ 32 :: d.data.toList)) := by
  have h2 : splitL 32 line.data.toList = [a.data.toList, b.data.toList, c.data.toList, d.data.toList] := by
    have h3 := congrArg (List.map (fun x : ByteArray => x.data.toList)) h
    simp only [splitS, List.map_map, List.map_cons, List.map_nil] at h3
    rw [← h3]
    conv => lhs; rw [← List.map_id (splitL 32 line.data.toList)]
    congr 1
  have := joinL_splitL 32 line.data.toList
  rw [h2] at this
  rw [← this]
  rfl
/-- A line is the text of its entry and its stamp: just where its fourth word is the stamp's decimal form. -/
theorem line_text {line a b c d : ByteArray} {st : Int} (h : splitS 32 line = [a, b, c, d]) (h1 : isDec a.data.toList = true) (h2 : isDec c.data.toList = true) (hs0 : 0 ≤ st) (hs1 : st ≤ 65518) :
    (lineB st ⟨numS a.data.toList, b, numS c.data.toList⟩ = line ++ ⟨#[10]⟩) ↔ (isDec d.data.toList = true ∧ numS d.data.toList = st) := by
  have e1 : (lineB st ⟨numS a.data.toList, b, numS c.data.toList⟩).data.toList = a.data.toList ++ 32 :: (b.data.toList ++ 32 :: (c.data.toList ++ 32 :: (itoa st ++ [10]))) := by
    rw [lineB_data]; simp only [itoa_numS h1, itoa_numS h2]
  have e2 : (line ++ (⟨#[10]⟩ : ByteArray)).data.toList = a.data.toList ++ 32 :: (b.data.toList ++ 32 :: (c.data.toList ++ 32 :: (d.data.toList ++ [10]))) := by
    rw [data_app, four_data h]; simp
  constructor
  · intro hh
    have e3 := congrArg (fun x : ByteArray => x.data.toList) hh
    rw [e1, e2] at e3
    have e4 : itoa st = d.data.toList := by simpa using e3
    have := isDec_itoa (n := st) (by omega) (by omega)
    rw [e4] at this
    exact this
  · rintro ⟨h3, h4⟩
    apply bytes_ext
    rw [e1, e2, ← h4, itoa_numS h3]
theorem lineB_size {st : Int} {e : En} (h : okEn e = true) (hs0 : 0 ≤ st) (hs1 : st ≤ 65518) : (lineB st e).size ≤ 80 := by
  have h1 := okEn_good h
  have h2 := okEn_what h
  have g1 := itoa_len h1.1.1 h1.1.2
  have g2 := itoa_len h1.2.2.1 h1.2.2.2
  have g3 := itoa_len (n := st) (by omega) (by omega)
  have e1 : (lineB st e).size = (wordsB e).size + 1 + (itoa st).length + 1 := by
    simp only [lineB, ByteArray.size_append, asBytes_size]; rfl
  rw [e1, wordsB_size]
  omega
theorem wordsB_small {e : En} (h : okEn e = true) : (wordsB e).size ≤ 60 := by
  have h1 := okEn_good h
  have h2 := okEn_what h
  have g1 := itoa_len h1.1.1 h1.1.2
  have g2 := itoa_len h1.2.2.1 h1.2.2.2
  rw [wordsB_size]
  omega
end Go.Proofs.YtjmlcobbjpmjpaaGreatDoor
namespace Go.Proofs.YtjmlcobbjpmjpaaGreatDoor
open Go.RowKit Go.Lib

def clOf (nm st f t q : ByteArray) : Cl := ⟨nm, numS st.data.toList, numS f.data.toList, numS t.data.toList, numS q.data.toList⟩
def decs4 (st f t q : ByteArray) : Bool := isDec st.data.toList && (isDec f.data.toList && (isDec t.data.toList && isDec q.data.toList))
def partsCl (v d : List ByteArray) (q : ByteArray) : Option Cl := match v, d with
  | [nm, st], [f, t] => if (decs4 st f t q && okCl (clOf nm st f t q)) = true then some (clOf nm st f t q) else none
  | _, _ => none
def parseCl (s : ByteArray) : Option Cl := match splitS 32 s with
  | [a, b, c] => match c.data.toList with
    | x :: q => if x = 120 then partsCl (splitS 64 a) (splitS 45 b) (asBytes q) else none
    | [] => none
  | _ => none
theorem parseCl_three {s : ByteArray} (h : (splitS 32 s).length ≠ 3) : parseCl s = none := by
  unfold parseCl
  split
  · rename_i e; rw [e] at h; simp at h
  · rfl
theorem three_of {α : Type} {l : List α} (h : l.length = 3) : ∃ a b c, l = [a, b, c] := by
  match l, h with
  | [a, b, c], _ => exact ⟨a, b, c, rfl⟩
theorem two_of {α : Type} {l : List α} (h : l.length = 2) : ∃ a b, l = [a, b] := by
  match l, h with
  | [a, b], _ => exact ⟨a, b, rfl⟩
theorem parseCl_eq {s a b c : ByteArray} {q : List UInt8} (h : splitS 32 s = [a, b, c]) (hc : c.data.toList = 120 :: q) : parseCl s = partsCl (splitS 64 a) (splitS 45 b) (asBytes q) := by
  simp [parseCl, h, hc]
theorem parseCl_x {s a b c : ByteArray} (h : splitS 32 s = [a, b, c]) (hc : ∀ q, c.data.toList ≠ 120 :: q) : parseCl s = none := by
  simp only [parseCl, h]
  split
  · rename_i x q e
    split
    · rename_i e2; subst e2; exact absurd e (hc q)
    · rfl
  · rfl
theorem partsCl_len {v d : List ByteArray} {q : ByteArray} (h : v.length ≠ 2 ∨ d.length ≠ 2) : partsCl v d q = none := by
  unfold partsCl
  split
  · simp at h
  · rfl
theorem partsCl_yes {nm st f t q : ByteArray} (h : decs4 st f t q = true) (h2 : okCl (clOf nm st f t q) = true) : partsCl [nm, st] [f, t] q = some (clOf nm st f t q) := by simp [partsCl, h, h2]
theorem partsCl_no {nm st f t q : ByteArray} (h : decs4 st f t q = false) : partsCl [nm, st] [f, t] q = none := by simp [partsCl, h]
theorem partsCl_bad {nm st f t q : ByteArray} (h : okCl (clOf nm st f t q) = false) : partsCl [nm, st] [f, t] q = none := by simp [partsCl, h]
/-- What there is of a text that reads as a client. -/
theorem parseCl_some {s : ByteArray} {y : Cl} (h : parseCl s = some y) : ∃ (a b c nm st f t : ByteArray) (q : List UInt8), splitS 32 s = [a, b, c] ∧ c.data.toList = 120 :: q ∧ splitS 64 a = [nm, st] ∧ splitS 45 b = [f, t] ∧ decs4 st f t (asBytes q) = true ∧ okCl (clOf nm st f t (asBytes q)) = true ∧ y = clOf nm st f t (asBytes q) := by
  by_cases h3 : (splitS 32 s).length = 3
  · obtain ⟨a, b, c, e3⟩ := three_of h3
    by_cases hx : ∃ q, c.data.toList = 120 :: q
    · obtain ⟨q, hq⟩ := hx
      rw [parseCl_eq e3 hq] at h
      by_cases h2 : (splitS 64 a).length ≠ 2 ∨ (splitS 45 b).length ≠ 2
      · rw [partsCl_len h2] at h; cases h
      · obtain ⟨nm, st, e1⟩ := two_of (l := splitS 64 a) (by omega)
        obtain ⟨f, t, e2⟩ := two_of (l := splitS 45 b) (by omega)
        rw [e1, e2] at h
        rcases hd : decs4 st f t (asBytes q) with _ | _
        · rw [partsCl_no hd] at h; cases h
        · rcases ho : okCl (clOf nm st f t (asBytes q)) with _ | _
          · rw [partsCl_bad ho] at h; cases h
          · rw [partsCl_yes hd ho] at h
            injection h with h
            exact ⟨a, b, c, nm, st, f, t, q, e3, hq, e1, e2, hd, ho, h.symm⟩
    · rw [parseCl_x e3 (fun q hq => hx ⟨q, hq⟩)] at h; cases h
  · rw [parseCl_three h3] at h; cases h
theorem splitS_data {c : UInt8} {s : ByteArray} {l : List (List UInt8)} (h : splitL c s.data.toList = l) : splitS c s = l.map asBytes := by rw [splitS, h]
theorem join_split {c : UInt8} {s : ByteArray} {l : List ByteArray} (h : splitS c s = l) : s.data.toList = joinL c (l.map fun x => x.data.toList) := by
  have h1 := joinL_splitL c s.data.toList
  rw [← h1]
  congr 1
  rw [← h, splitS, List.map_map]
  conv => lhs; rw [← List.map_id (splitL c s.data.toList)]
  congr 1
theorem nameC_ne {c : UInt8} (h : nameC c = true) : c ≠ 32 ∧ c ≠ 64 := by
  constructor
  · rintro rfl; revert h; decide
  · rintro rfl; revert h; decide
theorem name_free {s : ByteArray} (h : isName s = true) : (32 : UInt8) ∉ s.data.toList ∧ (64 : UInt8) ∉ s.data.toList := by
  simp only [isName, Bool.and_eq_true] at h
  have h2 := List.all_eq_true.1 h.2
  exact ⟨fun hm => (nameC_ne (h2 _ hm)).1 rfl, fun hm => (nameC_ne (h2 _ hm)).2 rfl⟩
theorem dig_free {l : List UInt8} (h : l.all isDig = true) : (32 : UInt8) ∉ l ∧ (64 : UInt8) ∉ l ∧ (45 : UInt8) ∉ l := by
  have h2 := List.all_eq_true.1 h
  refine ⟨fun hm => ?_, fun hm => ?_, fun hm => ?_⟩
  · have := h2 _ hm; revert this; decide
  · have := h2 _ hm; revert this; decide
  · have := h2 _ hm; revert this; decide
theorem itoa_free {n : Int} (h : 0 ≤ n) : (32 : UInt8) ∉ itoa n ∧ (64 : UInt8) ∉ itoa n ∧ (45 : UInt8) ∉ itoa n := by
  have e : itoa n = decDigits n.toNat := by unfold itoa; rw [if_neg (by omega)]
  rw [e]
  exact dig_free (decDigits_dig n.toNat)
/-- The text of a valid client reads as that client. -/
theorem parse_text {x : Cl} (h : okCl x = true) : parseCl (textCl x) = some x := by
  obtain ⟨hn, h1, h2, h3, h4⟩ := okCl_iff.1 h
  have fn := name_free hn
  have f1 := itoa_free (n := x.station) (by omega)
  have f2 := itoa_free (n := x.from_) (by omega)
  have f3 := itoa_free (n := x.to_) (by omega)
  have f4 := itoa_free (n := x.quota) (by omega)
  have d1 := isDec_itoa (n := x.station) (by omega) (by omega)
  have d2 := isDec_itoa (n := x.from_) (by omega) (by omega)
  have d3 := isDec_itoa (n := x.to_) (by omega) (by omega)
  have d4 := isDec_itoa (n := x.quota) (by omega) (by omega)
  have hd : (textCl x).data.toList = (x.name.data.toList ++ 64 :: itoa x.station) ++ 32 :: ((itoa x.from_ ++ 45 :: itoa x.to_) ++ 32 :: (120 :: itoa x.quota)) := by
    rw [textCl_yes h]
    simp [data_asBytes]
  have s1 : splitL 32 (textCl x).data.toList = [x.name.data.toList ++ 64 :: itoa x.station, itoa x.from_ ++ 45 :: itoa x.to_, 120 :: itoa x.quota] := by
    rw [hd, splitL_hit (by simp [fn.1, f1.1]), splitL_hit (by simp [f2.1, f3.1]), splitL_none (by simp [f4.1])]
  have s2 := splitS_data s1
  simp only [List.map_cons, List.map_nil] at s2
  have s3 : splitS 64 (asBytes (x.name.data.toList ++ 64 :: itoa x.station)) = [x.name, asBytes (itoa x.station)] := by
    have := splitS_data (c := 64) (s := asBytes (x.name.data.toList ++ 64 :: itoa x.station)) (l := [x.name.data.toList, itoa x.station]) (by rw [data_asBytes, splitL_hit fn.2, splitL_none f1.2.1])
    rw [this]
    simp [asBytes_data]
  have s4 : splitS 45 (asBytes (itoa x.from_ ++ 45 :: itoa x.to_)) = [asBytes (itoa x.from_), asBytes (itoa x.to_)] := by
    have := splitS_data (c := 45) (s := asBytes (itoa x.from_ ++ 45 :: itoa x.to_)) (l := [itoa x.from_, itoa x.to_]) (by rw [data_asBytes, splitL_hit f2.2.2, splitL_none f3.2.2])
    rw [this]
    rfl
  have hcl : clOf x.name (asBytes (itoa x.station)) (asBytes (itoa x.from_)) (asBytes (itoa x.to_)) (asBytes (itoa x.quota)) = x := by
    simp only [clOf, data_asBytes, d1.2, d2.2, d3.2, d4.2]
  rw [parseCl_eq s2 (by rw [data_asBytes]), s3, s4, partsCl_yes (by simp only [decs4, data_asBytes, d1.1, d2.1, d3.1, d4.1, Bool.and_self]) (by rw [hcl]; exact h), hcl]
/-- A text that reads as a client is that client's text. -/
theorem text_parse {s : ByteArray} {y : Cl} (h : parseCl s = some y) : okCl y = true ∧ textCl y = s := by
  obtain ⟨a, b, c, nm, st, f, t, q, e3, hq, e1, e2, hd, ho, rfl⟩ := parseCl_some h
  refine ⟨ho, ?_⟩
  simp only [decs4, data_asBytes, Bool.and_eq_true] at hd
  apply bytes_ext
  have j3 := join_split e3
  have j1 := join_split e1
  have j2 := join_split e2
  simp only [List.map_cons, List.map_nil, joinL] at j1 j2 j3
  rw [textCl_yes ho, j3, j1, j2, hq]
  simp only [clOf, data_app, data_asBytes, itoa_numS hd.1, itoa_numS hd.2.1, itoa_numS hd.2.2.1, itoa_numS hd.2.2.2]
  simp
end Go.Proofs.YtjmlcobbjpmjpaaGreatDoor
namespace Go.Proofs.YtjmlcobbjpmjpaaGreatDoor
open Go.RowKit Go.Lib

theorem dig_inR (c : UInt8) : isDig c = inR (c.toNat : Int) 48 57 := by
  rw [Bool.eq_iff_iff, isDig_iff, inR_true]
  omega
theorem valD_step (s : ByteArray) (k : Nat) (h : k < s.size) : valD (s.data.toList.take (k + 1)) = valD (s.data.toList.take k) * 10 + (s[k].toNat - 48) ∧ (s.data.toList.take (k + 1)).all isDig = ((s.data.toList.take k).all isDig && isDig s[k]) := by
  have e : s.data.toList.take (k + 1) = s.data.toList.take k ++ [s[k]] := by
    rw [List.take_succ_eq_append_getElem (by simpa using h)]; rfl
  rw [e, valD_snoc]
  exact ⟨rfl, by simp⟩

set_option maxHeartbeats 4000000 in
set_option maxRecDepth 100000 in
theorem l01Number_any (s : ByteArray) (w : World) (hs : s.size ≤ 281474976710656) :
    Calls Tryz.prog 112 #[.string s] w fun e w' => e = .returned (.tuple #[.int .i64 (readN s.data.toList).1, .bool (readN s.data.toList).2]) ∧ Below w.heap.size w w' := by
  rcases hneg : negS s.data.toList with _ | _
  · have hbare := Lib.hid (show s.data.toList = bare s.data.toList by
      cases hl : s.data.toList with
      | nil => rfl
      | cons c r => rw [hl] at hneg; simp [negS] at hneg; simp [bare, hneg])
    have hsl : s.data.toList.length = s.size := by rw [Array.length_toList]; rfl
    by_cases h1 : s.size < 1
    · have hnil : s.data.toList = [] := List.eq_nil_of_length_eq_zero (by omega)
      have HO := Lib.hid (readN_no (isDec_empty (s := s.data.toList) (by rw [hnil]; rfl)))
      have he : s.toList = [] := by rw [Go.ByteArray.toList_eq]; exact hnil
      have h1i : (s.size : Int) < 1 := by omega
      clear hneg hnil
      go_enter Tryz.func112, Tryz.ntmps112
      go_wp2
      go_ret2
      rw [HO.out]
      exact ⟨rfl, Below.refl _ _⟩
    · have h1i : decide ((s.size : Int) < 1) = false := decide_eq_false (by omega)
      have hpos : 0 < s.size := by omega
      have hpi : (0 : Int) < (s.size : Int) := by omega
      have hne : s.toList.isEmpty = false := by
        rw [Go.ByteArray.toList_eq]
        cases hl : s.data.toList with
        | nil => rw [hl] at hsl; simp at hsl; omega
        | cons c r => rfl
      have hne2 : (!s.toList.isEmpty) = true := by rw [hne]; rfl
      have h45 : ((s[0].toNat : Int) == 45) = false := by
        have hb := byte_at s 0 hpos
        cases hl : s.data.toList with
        | nil => rw [hl] at hsl; simp at hsl; omega
        | cons c r =>
          rw [hl] at hneg hb
          simp [negS] at hneg
          simp at hb
          rw [← hb, beq_eq_false_iff_ne]
          intro e
          exact hneg (by rw [← UInt8.toNat_inj]; show c.toNat = 45; omega)
      by_cases h18 : 18 < s.size
      · have HO := Lib.hid (readN_no (isDec_long (s := s.data.toList) (by rw [← hbare.out]; omega)))
        have h18i : (18 : Int) < (s.size : Int) := by omega
        clear hneg
        go_enter Tryz.func112, Tryz.ntmps112
        go_wp2
        go_ret2
        rw [HO.out]
        exact ⟨rfl, Below.refl _ _⟩
      · have h18i : decide ((18 : Int) < (s.size : Int)) = false := decide_eq_false (by omega)
        have htl := Lib.hid (show s.data.toList.length ≤ 18 by omega)
        have hlq : decide ((s.size : Int) < (s.size : Int)) = false := decide_eq_false (by omega)
        have HN := Lib.hid hneg
        clear hneg hsl
        go_enter Tryz.func112, Tryz.ntmps112
        go_wp2
        go_loop [5, 6] (fun n i => ∃ k : Nat, k ≤ s.size ∧ i = .int .i64 k ∧ n = .int .i64 (valD (s.data.toList.take k) : Int) ∧ (s.data.toList.take k).all isDig = true) (fun _ i => s.size - (RowKit.intOf i).toNat)
        case atStart => exact ⟨0, Nat.zero_le _, rfl, rfl, rfl⟩
        case round =>
          obtain ⟨k, hk, rfl, rfl, hall⟩ := hrel
          have hvb := valD_lt hall (by rw [List.length_take]; have := htl.out; omega)
          have HA := Lib.hid hall
          clear hall
          by_cases hlt : k < s.size
          · obtain ⟨st1, st2⟩ := valD_step s k hlt
            rcases hd : isDig s[k] with _ | _
            · have HO := Lib.hid (readN_no (isDec_bad (s := s.data.toList) (by
                rw [← hbare.out]
                exact all_bad (byte_at s k hlt) hd)))
              have hin : inR (s[k].toNat : Int) 48 57 = false := by rw [← dig_inR]; exact hd
              clear st1 st2 hd
              go_wp2_with fail
              refine (l01Digit_any _ _).mono ?_
              rintro e w2 ⟨rfl, rfl⟩
              go_wp2
              go_ret2
              rw [HO.out]
              exact ⟨rfl, Below.refl _ _⟩
            · have hdr := isDig_iff.1 hd
              have hin : inR (s[k].toNat : Int) 48 57 = true := by rw [← dig_inR]; exact hd
              have HS1 := Lib.hid st1
              have HS2 := Lib.hid (show (s.data.toList.take (k + 1)).all isDig = true by rw [st2, HA.out, hd]; rfl)
              obtain ⟨v, hv⟩ : ∃ v, valD (s.data.toList.take k) = v := ⟨_, rfl⟩
              obtain ⟨cn, hcn⟩ : ∃ cn, s[k].toNat = cn := ⟨_, rfl⟩
              rw [hv] at hvb HS1 ⊢
              rw [hcn] at hdr hin HS1
              have h48 : (48 : Int) ≤ (cn : Int) := by omega
              have h57 : (cn : Int) ≤ 57 := by omega
              have h0v : (0 : Int) ≤ (v : Int) := by omega
              have hvi : (v : Int) < 1000000000000000000 := by omega
              have hnx := valD_lt HS2.out (by rw [List.length_take]; have := htl.out; omega)
              rw [HS1.out] at hnx
              have hv17 : (v : Int) < 100000000000000000 := by omega
              have HCN := Lib.hid hcn
              clear st1 st2 hd hv
              go_wp2_with fail
              refine (l01Digit_any _ _).mono ?_
              rintro e w2 ⟨rfl, rfl⟩
              go_wp2
              refine ⟨⟨k + 1, by omega, by simp, ?_, HS2.out⟩, by simp [RowKit.intOf]; omega⟩
              rw [HS1.out]
              refine congrArg (Value.int .i64) ?_
              omega
          · obtain rfl : k = s.size := by omega
            have htk : s.data.toList.take s.size = s.data.toList := List.take_of_length_le (by rw [Array.length_toList]; exact Nat.le_refl _)
            have HA2 := Lib.hid (show (bare s.data.toList).all isDig = true by rw [← hbare.out, ← htk]; exact HA.out)
            have HV := Lib.hid (show valD (s.data.toList.take s.size) = valD (bare s.data.toList) by rw [htk]; exact congrArg valD hbare.out)
            rw [HV.out] at hvb ⊢
            obtain ⟨v, hv⟩ : ∃ v, valD (bare s.data.toList) = v := ⟨_, rfl⟩
            have HN2 := Lib.hid (show numS s.data.toList = (valD (bare s.data.toList) : Int) by unfold numS; rw [HN.out]; simp)
            rw [hv] at hvb HN2 ⊢
            have h0v : (0 : Int) ≤ (v : Int) := by omega
            have hvi : (v : Int) < 1000000000000000000 := by omega
            have hkk : ¬ ((s.size : Int) < (s.size : Int)) := by omega
            have HD := Lib.hid (show isDec s.data.toList = true ↔ itoa (v : Int) = s.data.toList by
              rw [isDec_iff, HN2.out]
              refine ⟨fun h => h.2.2.2, fun h => ⟨fun e => ?_, by rw [← hbare.out]; exact htl.out, HA2.out, h⟩⟩
              have := hbare.out
              rw [e] at this
              have h3 : s.data.toList.length = s.size := by rw [Array.length_toList]; rfl
              rw [this] at h3
              simp at h3
              omega)
            clear hv htk
            rcases hq : ((asBytes (itoa (v : Int))).toList == s.toList) with _ | _
            · have HO := Lib.hid (readN_no (s := s.data.toList) (by
                rw [← Bool.not_eq_true]
                intro h
                have h2 := HD.out.1 h
                rw [Go.ByteArray.toList_eq, Go.ByteArray.toList_eq, data_asBytes, h2] at hq
                simp at hq))
              have hq' : ((asBytes (itoa (v : Int))).toList != s.toList) = true := by simp only [bne, hq]; rfl
              go_wp2_with fail
              refine (l01Dec_any (v : Int) _ (by omega) (by omega)).mono ?_
              rintro e w2 ⟨rfl, b2⟩
              have B2 := Lib.hid b2
              clear b2
              go_wp2
              go_ret2
              rw [HO.out]
              exact ⟨rfl, B2.out⟩
            · have HO := Lib.hid (show readN s.data.toList = ((v : Int), true) by
                have h2 : itoa (v : Int) = s.data.toList := by
                  rw [Go.ByteArray.toList_eq, Go.ByteArray.toList_eq, data_asBytes] at hq
                  simpa using hq
                rw [readN_yes (HD.out.2 h2), HN2.out])
              have hq' : ((asBytes (itoa (v : Int))).toList != s.toList) = false := by simp only [bne, hq]; rfl
              go_wp2_with fail
              refine (l01Dec_any (v : Int) _ (by omega) (by omega)).mono ?_
              rintro e w2 ⟨rfl, b2⟩
              have B2 := Lib.hid b2
              clear b2
              go_wp2
              go_ret2
              rw [HO.out]
              exact ⟨rfl, B2.out⟩
  · have hsl : s.data.toList.length = s.size := by rw [Array.length_toList]; rfl
    obtain ⟨r, hr⟩ : ∃ r, s.data.toList = 45 :: r := by
      cases hl : s.data.toList with
      | nil => rw [hl] at hneg; simp [negS] at hneg
      | cons c r => rw [hl] at hneg; simp [negS] at hneg; exact ⟨r, by rw [hneg]⟩
    have hpos : 0 < s.size := by rw [← hsl, hr]; simp
    obtain ⟨t, ht⟩ : ∃ t, s.extract 1 s.size = t := ⟨_, rfl⟩
    have htd : t.data.toList = bare s.data.toList := by
      rw [← ht, extract_to_end, hr]
      simp [bare]
    have hts : t.size + 1 = s.size := by
      have e1 : t.data.toList.length = t.size := by rw [Array.length_toList]; rfl
      have e2 : t.data.toList = r := by rw [htd, hr]; simp [bare]
      rw [← e1, e2, ← hsl, hr]
      simp
    have hbare := Lib.hid htd
    have HT := Lib.hid ht
    have h45 : ((s[0].toNat : Int) == 45) = true := by
      have hb := byte_at s 0 hpos
      rw [hr] at hb
      simp at hb
      rw [← hb]
      rfl
    have hne2 : (!s.toList.isEmpty) = true := by
      rw [Go.ByteArray.toList_eq, hr]
      rfl
    have hpi : (0 : Int) < (s.size : Int) := by omega
    have hsli : (1 : Int) ≤ (s.size : Int) := by omega
    have HN := Lib.hid hneg
    clear ht htd hneg hr
    by_cases h1 : t.size < 1
    · have hnil : t.data.toList = [] := List.eq_nil_of_length_eq_zero (by rw [Array.length_toList]; exact Nat.lt_one_iff.1 h1)
      have HO := Lib.hid (readN_no (isDec_empty (s := s.data.toList) (by rw [← hbare.out]; exact hnil)))
      have h1i : (t.size : Int) < 1 := by omega
      clear hnil
      go_enter Tryz.func112, Tryz.ntmps112
      go_wp2
      rw [HT.out]
      go_wp2
      go_ret2
      rw [HO.out]
      exact ⟨rfl, Below.refl _ _⟩
    · have h1i : decide ((t.size : Int) < 1) = false := decide_eq_false (by omega)
      have htsz : t.data.toList.length = t.size := by rw [Array.length_toList]; rfl
      by_cases h18 : 18 < t.size
      · have HO := Lib.hid (readN_no (isDec_long (s := s.data.toList) (by rw [← hbare.out]; omega)))
        have h18i : (18 : Int) < (t.size : Int) := by omega
        go_enter Tryz.func112, Tryz.ntmps112
        go_wp2
        rw [HT.out]
        go_wp2
        go_ret2
        rw [HO.out]
        exact ⟨rfl, Below.refl _ _⟩
      · have h18i : decide ((18 : Int) < (t.size : Int)) = false := decide_eq_false (by omega)
        have htl := Lib.hid (show t.data.toList.length ≤ 18 by omega)
        have hlq : (t.size : Int) < (s.size : Int) := by omega
        clear htsz
        go_enter Tryz.func112, Tryz.ntmps112
        go_wp2
        rw [HT.out]
        go_wp2
        go_loop [5, 6] (fun n i => ∃ k : Nat, k ≤ t.size ∧ i = .int .i64 k ∧ n = .int .i64 (valD (t.data.toList.take k) : Int) ∧ (t.data.toList.take k).all isDig = true) (fun _ i => t.size - (RowKit.intOf i).toNat)
        case atStart => exact ⟨0, Nat.zero_le _, rfl, rfl, rfl⟩
        case round =>
          obtain ⟨k, hk, rfl, rfl, hall⟩ := hrel
          have hvb := valD_lt hall (by rw [List.length_take]; have := htl.out; omega)
          have HA := Lib.hid hall
          clear hall
          by_cases hlt : k < t.size
          · obtain ⟨st1, st2⟩ := valD_step t k hlt
            rcases hd : isDig t[k] with _ | _
            · have HO := Lib.hid (readN_no (isDec_bad (s := s.data.toList) (by
                rw [← hbare.out]
                exact all_bad (byte_at t k hlt) hd)))
              have hin : inR (t[k].toNat : Int) 48 57 = false := by rw [← dig_inR]; exact hd
              clear st1 st2 hd
              go_wp2_with fail
              refine (l01Digit_any _ _).mono ?_
              rintro e w2 ⟨rfl, rfl⟩
              go_wp2
              go_ret2
              rw [HO.out]
              exact ⟨rfl, Below.refl _ _⟩
            · have hdr := isDig_iff.1 hd
              have hin : inR (t[k].toNat : Int) 48 57 = true := by rw [← dig_inR]; exact hd
              have HS1 := Lib.hid st1
              have HS2 := Lib.hid (show (t.data.toList.take (k + 1)).all isDig = true by rw [st2, HA.out, hd]; rfl)
              obtain ⟨v, hv⟩ : ∃ v, valD (t.data.toList.take k) = v := ⟨_, rfl⟩
              obtain ⟨cn, hcn⟩ : ∃ cn, t[k].toNat = cn := ⟨_, rfl⟩
              rw [hv] at hvb HS1 ⊢
              rw [hcn] at hdr hin HS1
              have h48 : (48 : Int) ≤ (cn : Int) := by omega
              have h57 : (cn : Int) ≤ 57 := by omega
              have h0v : (0 : Int) ≤ (v : Int) := by omega
              have hvi : (v : Int) < 1000000000000000000 := by omega
              have hnx := valD_lt HS2.out (by rw [List.length_take]; have := htl.out; omega)
              rw [HS1.out] at hnx
              have hv17 : (v : Int) < 100000000000000000 := by omega
              have HCN := Lib.hid hcn
              clear st1 st2 hd hv
              go_wp2_with fail
              refine (l01Digit_any _ _).mono ?_
              rintro e w2 ⟨rfl, rfl⟩
              go_wp2
              refine ⟨⟨k + 1, by omega, by simp, ?_, HS2.out⟩, by simp [RowKit.intOf]; omega⟩
              rw [HS1.out]
              refine congrArg (Value.int .i64) ?_
              omega
          · obtain rfl : k = t.size := by omega
            have htk : t.data.toList.take t.size = t.data.toList := List.take_of_length_le (by rw [Array.length_toList]; exact Nat.le_refl _)
            have HA2 := Lib.hid (show (bare s.data.toList).all isDig = true by rw [← hbare.out, ← htk]; exact HA.out)
            have HV := Lib.hid (show valD (t.data.toList.take t.size) = valD (bare s.data.toList) by rw [htk]; exact congrArg valD hbare.out)
            rw [HV.out] at hvb ⊢
            obtain ⟨v, hv⟩ : ∃ v, valD (bare s.data.toList) = v := ⟨_, rfl⟩
            have HN2 := Lib.hid (show numS s.data.toList = -(valD (bare s.data.toList) : Int) by unfold numS; rw [HN.out]; simp)
            rw [hv] at hvb HN2 ⊢
            have h0v : (0 : Int) ≤ (v : Int) := by omega
            have hvi : (v : Int) < 1000000000000000000 := by omega
            have hkk : ¬ ((t.size : Int) < (t.size : Int)) := by omega
            have HD := Lib.hid (show isDec s.data.toList = true ↔ itoa (-(v : Int)) = s.data.toList by
              rw [isDec_iff, HN2.out]
              refine ⟨fun h => h.2.2.2, fun h => ⟨fun e => ?_, by rw [← hbare.out]; exact htl.out, HA2.out, h⟩⟩
              have := hbare.out
              rw [e] at this
              have h3 : t.data.toList.length = t.size := by rw [Array.length_toList]; rfl
              rw [this] at h3
              simp at h3
              omega)
            clear hv htk
            rcases hq : ((asBytes (itoa (-(v : Int)))).toList == s.toList) with _ | _
            · have HO := Lib.hid (readN_no (s := s.data.toList) (by
                rw [← Bool.not_eq_true]
                intro h
                have h2 := HD.out.1 h
                rw [Go.ByteArray.toList_eq, Go.ByteArray.toList_eq, data_asBytes, h2] at hq
                simp at hq))
              have hq' : ((asBytes (itoa (-(v : Int)))).toList != s.toList) = true := by simp only [bne, hq]; rfl
              go_wp2_with fail
              refine (l01Dec_any (-(v : Int)) _ (by omega) (by omega)).mono ?_
              rintro e w2 ⟨rfl, b2⟩
              have B2 := Lib.hid b2
              clear b2
              go_wp2
              go_ret2
              rw [HO.out]
              exact ⟨rfl, B2.out⟩
            · have HO := Lib.hid (show readN s.data.toList = ((-(v : Int)), true) by
                have h2 : itoa (-(v : Int)) = s.data.toList := by
                  rw [Go.ByteArray.toList_eq, Go.ByteArray.toList_eq, data_asBytes] at hq
                  simpa using hq
                rw [readN_yes (HD.out.2 h2), HN2.out])
              have hq' : ((asBytes (itoa (-(v : Int)))).toList != s.toList) = false := by simp only [bne, hq]; rfl
              go_wp2_with fail
              refine (l01Dec_any (-(v : Int)) _ (by omega) (by omega)).mono ?_
              rintro e w2 ⟨rfl, b2⟩
              have B2 := Lib.hid b2
              clear b2
              go_wp2
              go_ret2
              rw [HO.out]
              exact ⟨rfl, B2.out⟩
end Go.Proofs.YtjmlcobbjpmjpaaGreatDoor
namespace Go.Proofs.YtjmlcobbjpmjpaaGreatDoor
open Go.RowKit Go.Lib

def rcF (s : ByteArray) : Cl × Bool := match parseCl s with
  | some y => (y, true)
  | none => (⟨⟨#[]⟩, 0, 0, 0, 0⟩, false)
theorem rcF_some {s : ByteArray} {y : Cl} (h : parseCl s = some y) : rcF s = (y, true) := by simp [rcF, h]
theorem rcF_none {s : ByteArray} (h : parseCl s = none) : rcF s = (⟨⟨#[]⟩, 0, 0, 0, 0⟩, false) := by simp [rcF, h]
theorem isDec_nil : isDec [] = false := rfl
theorem partsCl_nil {v d : List ByteArray} : partsCl v d (asBytes []) = none := by
  unfold partsCl
  split
  · rw [if_neg]
    simp [decs4, data_asBytes, isDec_nil]
  · rfl
theorem parseCl_short {s a b c : ByteArray} (h : splitS 32 s = [a, b, c]) (hc : c.size < 2) : parseCl s = none := by
  by_cases hx : ∃ q, c.data.toList = 120 :: q
  · obtain ⟨q, hq⟩ := hx
    have hl := data_len c
    rw [hq, List.length_cons] at hl
    have : q = [] := List.length_eq_zero_iff.1 (by omega)
    subst this
    rw [parseCl_eq h hq, partsCl_nil]
  · exact parseCl_x h (fun q hq => hx ⟨q, hq⟩)
theorem three_sizes {line a b c : ByteArray} (h : splitS 32 line = [a, b, c]) : a.size ≤ line.size ∧ b.size ≤ line.size ∧ c.size ≤ line.size := by
  have h1 := congrArg List.length (join_split h)
  simp only [List.map_cons, List.map_nil, joinL, List.length_append, List.length_cons, data_len] at h1
  omega
theorem two_sizes {k : UInt8} {line a b : ByteArray} (h : splitS k line = [a, b]) : a.size ≤ line.size ∧ b.size ≤ line.size := by
  have h1 := congrArg List.length (join_split h)
  simp only [List.map_cons, List.map_nil, joinL, List.length_append, List.length_cons, data_len] at h1
  omega
theorem sl_strs3 {w : World} {lo hi n k : Nat} {A : Option Addr} {a b c : ByteArray} (h : Sl w lo hi 9 1 A n k (strs [a, b, c])) : n = 3 ∧ ∃ g, A = some ⟨g, 0, none⟩ ∧ w.cell? ⟨g, 0, none⟩ = some (.string a) ∧ w.cell? ⟨g, 1, none⟩ = some (.string b) ∧ w.cell? ⟨g, 2, none⟩ = some (.string c) := by
  have hn := h.len
  simp [strs] at hn
  subst hn
  obtain ⟨g, rfl, _, _, _⟩ := h.lt (by omega)
  exact ⟨rfl, g, rfl, h.cellAt 0 (by omega), h.cellAt 1 (by omega), h.cellAt 2 (by omega)⟩
theorem sl_strs2 {w : World} {lo hi n k : Nat} {A : Option Addr} {a b : ByteArray} (h : Sl w lo hi 9 1 A n k (strs [a, b])) : n = 2 ∧ ∃ g, A = some ⟨g, 0, none⟩ ∧ w.cell? ⟨g, 0, none⟩ = some (.string a) ∧ w.cell? ⟨g, 1, none⟩ = some (.string b) := by
  have hn := h.len
  simp [strs] at hn
  subst hn
  obtain ⟨g, rfl, _, _, _⟩ := h.lt (by omega)
  exact ⟨rfl, g, rfl, h.cellAt 0 (by omega), h.cellAt 1 (by omega)⟩
theorem head_x {c : ByteArray} (h : 0 < c.size) (hx : c[0] = 120) : c.data.toList = 120 :: (c.extract 1 c.size).data.toList := by
  have hl := data_len c
  rw [extract_to_end]
  have h1 := byte_at c 0 h
  cases hc : c.data.toList with
  | nil => rw [hc] at hl; simp at hl; omega
  | cons y r =>
    rw [hc] at h1
    simp at h1
    rw [h1, hx]
    simp
theorem head_no {c : ByteArray} (h : 0 < c.size) (hx : c[0] ≠ 120) : ∀ q, c.data.toList ≠ 120 :: q := by
  intro q hq
  have h1 := byte_at c 0 h
  rw [hq] at h1
  simp at h1
  exact hx h1.symm

theorem readN_snd (s : List UInt8) : (readN s).2 = isDec s := by unfold readN; split <;> simp_all
theorem readN_fstT {s : List UInt8} (h : isDec s = true) : (readN s).1 = numS s := by rw [readN_yes h]

set_option maxHeartbeats 4000000 in
set_option maxRecDepth 100000 in
theorem specReadClient_any (s : ByteArray) (w : World) (hs : s.size ≤ 1048576) :
    Calls Tryz.prog 41 #[.string s] w fun e w' => e = .returned (.tuple #[.agg #[.string (rcF s).1.name, .int .i64 (rcF s).1.station, .int .i64 (rcF s).1.from_, .int .i64 (rcF s).1.to_, .int .i64 (rcF s).1.quota], .bool (rcF s).2]) ∧ Below w.heap.size w w' := by
  have b0 : Below w.heap.size w (w.alloc (.cells #[.string ⟨#[]⟩, .int .i64 0, .int .i64 0, .int .i64 0, .int .i64 0] 48)) := (Below.refl _ _).alloc (Nat.le_refl _) _
  have y0 := Blk.new w 48 #[.string ⟨#[]⟩, .int .i64 0, .int .i64 0, .int .i64 0, .int .i64 0]
  by_cases h3 : (splitS 32 s).length = 3
  · obtain ⟨a, b, c, he⟩ := three_of h3
    obtain ⟨za, zb, zc⟩ := three_sizes he
    clear h3
    by_cases h2 : c.size < 2
    · have HO := Lib.hid (rcF_none (parseCl_short he h2))
      have hi2 : (c.size : Int) < 2 := by omega
      go_enter Tryz.func41, Tryz.ntmps41
      go_wp2_with fail
      refine (l01Split_any s 32 _ hs).mono ?_
      rintro e w1 ⟨A, n, k, rfl, s1, b1⟩
      have y1 := y0.on b1
      have HB1 := Lib.hid (bnext b0 b1 (Nat.le_refl _))
      clear b1 b0 y0
      rw [he] at s1
      obtain ⟨rfl, g, rfl, c0, c1, c2⟩ := sl_strs3 s1
      clear s1
      have hc0 := y1.cellAt 0 (by simp)
      have hc1 := y1.cellAt 1 (by simp)
      have hc2 := y1.cellAt 2 (by simp)
      have hc3 := y1.cellAt 3 (by simp)
      have hc4 := y1.cellAt 4 (by simp)
      have hf0 := y1.frozen 0
      have hf1 := y1.frozen 1
      have hf2 := y1.frozen 2
      have hf3 := y1.frozen 3
      have hf4 := y1.frozen 4
      clear y1
      go_wp2
      exact bodyPost_ret (v := .tuple #[.agg #[.string ⟨#[]⟩, .int .i64 0, .int .i64 0, .int .i64 0, .int .i64 0], .bool false]) (by simp [results, Tryz.results41, go_sem, hc0, hc1, hc2, hc3, hc4]) rfl ⟨by rw [HO.out], ((((HB1.out.setCell (Nat.le_refl _) _).setCell (Nat.le_refl _) _).setCell (Nat.le_refl _) _).setCell (Nat.le_refl _) _).setCell (Nat.le_refl _) _⟩
    · have hi2 : ¬ ((c.size : Int) < 2) := by omega
      have hcs : 0 < c.size := by omega
      have hcsi : (0 : Int) < (c.size : Int) := by omega
      by_cases hx : c[0] = 120
      · have hq := head_x hcs hx
        have hxi : ((c[0].toNat : Int) != 120) = false := by rw [hx]; rfl
        have hxi2 : ((c[0].toNat : Int) == 120) = true := by rw [hx]; rfl
        have HP := Lib.hid (parseCl_eq he hq)
        rw [asBytes_data] at HP
        have hqs : (c.extract 1 c.size).size ≤ 1048576 := by rw [ByteArray.size_extract]; omega
        have h1c : (1 : Int) ≤ (c.size : Int) := by omega
        clear hx hq
        go_enter Tryz.func41, Tryz.ntmps41
        go_wp2_with fail
        refine (l01Split_any s 32 _ hs).mono ?_
        rintro e w1 ⟨A, n, k, rfl, s1, b1⟩
        have y1 := y0.on b1
        have HB1 := Lib.hid (bnext b0 b1 (Nat.le_refl _))
        clear b1 b0 y0
        rw [he] at s1
        obtain ⟨rfl, g, rfl, c0, c1, c2⟩ := sl_strs3 s1
        clear s1
        go_wp2_with fail
        refine (l01Split_any a 64 _ (by omega)).mono ?_
        rintro e w2 ⟨A2, n2, k2, rfl, s2, b2⟩
        replace c1 := cell_on b2 c1
        replace c2 := cell_on b2 c2
        have y2 := y1.on b2
        have HB2 := Lib.hid (bnext HB1.out b2 (Nat.le_refl _))
        clear b2 c0 y1
        go_wp2_with fail
        refine (l01Split_any b 45 _ (by omega)).mono ?_
        rintro e w3 ⟨A3, n3, k3, rfl, s3, b3⟩
        replace c2 := cell_on b3 c2
        replace s2 := s2.on b3
        have y3 := y2.on b3
        have HB3 := Lib.hid (bnext HB2.out b3 (Nat.le_refl _))
        clear b3 c1 y2
        have hl2 := s2.len
        have hl3 := s3.len
        simp only [strs, List.length_map, Nat.mul_one] at hl2 hl3
        by_cases hv : (splitS 64 a).length = 2
        · by_cases hd : (splitS 45 b).length = 2
          · obtain ⟨nm, st, e1⟩ := two_of hv
            obtain ⟨f, t, e2⟩ := two_of hd
            rw [e1] at s2
            rw [e2] at s3
            obtain ⟨rfl, g2, rfl, u0, u1⟩ := sl_strs2 s2
            obtain ⟨rfl, g3, rfl, v0, v1⟩ := sl_strs2 s3
            obtain ⟨zn, zst⟩ := two_sizes e1
            obtain ⟨zf, zt⟩ := two_sizes e2
            rw [e1, e2] at HP
            clear s2 s3 hl2 hl3 hv hd e1 e2
            obtain ⟨q, hqq⟩ : ∃ y, c.extract 1 c.size = y := ⟨_, rfl⟩
            rw [hqq] at HP hqs
            go_wp2_with fail
            refine (l01Number_any st _ (by omega)).mono ?_
            rintro e w4 ⟨rfl, b4⟩
            replace c2 := cell_on b4 c2
            replace u0 := cell_on b4 u0
            replace v0 := cell_on b4 v0
            replace v1 := cell_on b4 v1
            have y4 := y3.on b4
            have HB4 := Lib.hid (bnext HB3.out b4 (Nat.le_refl _))
            clear b4 u1 y3
            go_wp2_with fail
            refine (l01Number_any f _ (by omega)).mono ?_
            rintro e w5 ⟨rfl, b5⟩
            replace c2 := cell_on b5 c2
            replace u0 := cell_on b5 u0
            replace v1 := cell_on b5 v1
            have y5 := y4.on b5
            have HB5 := Lib.hid (bnext HB4.out b5 (Nat.le_refl _))
            clear b5 v0 y4
            go_wp2_with fail
            refine (l01Number_any t _ (by omega)).mono ?_
            rintro e w6 ⟨rfl, b6⟩
            replace c2 := cell_on b6 c2
            replace u0 := cell_on b6 u0
            have y6 := y5.on b6
            have HB6 := Lib.hid (bnext HB5.out b6 (Nat.le_refl _))
            clear b6 v1 y5
            go_wp2_with fail
            refine (l01Number_any q _ (by omega)).mono ?_
            rintro e w7 ⟨rfl, b7⟩
            replace u0 := cell_on b7 u0
            have y7 := y6.on b7
            have HB7 := Lib.hid (bnext HB6.out b7 (Nat.le_refl _))
            clear b7 c2 y6 hqq
            have x1 := readN_bd st.data.toList
            have x2 := readN_bd f.data.toList
            have x3 := readN_bd t.data.toList
            have x4 := readN_bd q.data.toList
            have hdd : decs4 st f t q = ((readN st.data.toList).2 && ((readN f.data.toList).2 && ((readN t.data.toList).2 && (readN q.data.toList).2))) := by
              simp only [decs4, readN_snd]
            have hcl : decs4 st f t q = true → clOf nm st f t q = ⟨nm, (readN st.data.toList).1, (readN f.data.toList).1, (readN t.data.toList).1, (readN q.data.toList).1⟩ := fun h => by
              simp only [decs4, Bool.and_eq_true] at h
              simp only [clOf, readN_fstT h.1, readN_fstT h.2.1, readN_fstT h.2.2.1, readN_fstT h.2.2.2]
            obtain ⟨n1, hn1⟩ : ∃ v, (readN st.data.toList).1 = v := ⟨_, rfl⟩
            obtain ⟨n2, hn2⟩ : ∃ v, (readN f.data.toList).1 = v := ⟨_, rfl⟩
            obtain ⟨n3, hn3⟩ : ∃ v, (readN t.data.toList).1 = v := ⟨_, rfl⟩
            obtain ⟨n4, hn4⟩ : ∃ v, (readN q.data.toList).1 = v := ⟨_, rfl⟩
            obtain ⟨p1, hp1⟩ : ∃ v, (readN st.data.toList).2 = v := ⟨_, rfl⟩
            obtain ⟨p2, hp2⟩ : ∃ v, (readN f.data.toList).2 = v := ⟨_, rfl⟩
            obtain ⟨p3, hp3⟩ : ∃ v, (readN t.data.toList).2 = v := ⟨_, rfl⟩
            obtain ⟨p4, hp4⟩ : ∃ v, (readN q.data.toList).2 = v := ⟨_, rfl⟩
            simp only [hn1, hn2, hn3, hn4, hp1, hp2, hp3, hp4] at x1 x2 x3 x4 hdd hcl ⊢
            clear hn1 hn2 hn3 hn4 hp1 hp2 hp3 hp4
            have HCL := Lib.hid hcl
            have HDD := Lib.hid hdd
            clear hcl hdd
            obtain ⟨wq, hwq⟩ : ∃ y, w7.alloc (.cells #[.string nm, .int .i64 n1, .int .i64 n2, .int .i64 n3, .int .i64 n4] 48) = y := ⟨_, rfl⟩
            have bq : Below w7.heap.size w7 wq := by rw [← hwq]; exact (Below.refl _ _).alloc (Nat.le_refl _) _
            have yx : Blk wq w7.heap.size 48 #[.string nm, .int .i64 n1, .int .i64 n2, .int .i64 n3, .int .i64 n4] := by rw [← hwq]; exact Blk.new _ _ _
            have y8 := y7.on bq
            have HB8 := Lib.hid (bnext HB7.out bq (Nat.le_refl _))
            have e0 : wq.cell? ⟨w7.heap.size, 0, none⟩ = some (.string nm) := yx.cellAt 0 (by simp)
            have e1 : wq.cell? ⟨w7.heap.size, 0 + 1, none⟩ = some (.int .i64 n1) := yx.cellAt 1 (by simp)
            have e2 : wq.cell? ⟨w7.heap.size, 0 + 2, none⟩ = some (.int .i64 n2) := yx.cellAt 2 (by simp)
            have e3 : wq.cell? ⟨w7.heap.size, 0 + 3, none⟩ = some (.int .i64 n3) := yx.cellAt 3 (by simp)
            have e4 : wq.cell? ⟨w7.heap.size, 0 + 4, none⟩ = some (.int .i64 n4) := yx.cellAt 4 (by simp)
            have d1 : wq.cell? ⟨w7.heap.size, 1, none⟩ = some (.int .i64 n1) := e1
            have d2 : wq.cell? ⟨w7.heap.size, 2, none⟩ = some (.int .i64 n2) := e2
            have d3 : wq.cell? ⟨w7.heap.size, 3, none⟩ = some (.int .i64 n3) := e3
            have d4 : wq.cell? ⟨w7.heap.size, 4, none⟩ = some (.int .i64 n4) := e4
            have hc0 := y8.cellAt 0 (by simp)
            have hc1 := y8.cellAt 1 (by simp)
            have hc2 := y8.cellAt 2 (by simp)
            have hc3 := y8.cellAt 3 (by simp)
            have hc4 := y8.cellAt 4 (by simp)
            have hf0 := y8.frozen 0
            have hf1 := y8.frozen 1
            have hf2 := y8.frozen 2
            have hf3 := y8.frozen 3
            have hf4 := y8.frozen 4
            clear y7 y8 yx bq
            rcases p1 with _ | _
            · have HO := Lib.hid (rcF_none (by rw [HP.out]; exact partsCl_no (by rw [HDD.out, Bool.false_and])))
              go_wp2
              exact bodyPost_ret (v := .tuple #[.agg #[.string ⟨#[]⟩, .int .i64 0, .int .i64 0, .int .i64 0, .int .i64 0], .bool false]) (by simp [results, Tryz.results41, go_sem, hc0, hc1, hc2, hc3, hc4]) rfl ⟨by rw [HO.out], ((((HB8.out.setCell (Nat.le_refl _) _).setCell (Nat.le_refl _) _).setCell (Nat.le_refl _) _).setCell (Nat.le_refl _) _).setCell (Nat.le_refl _) _⟩
            · rcases p2 with _ | _
              · have HO := Lib.hid (rcF_none (by rw [HP.out]; exact partsCl_no (by rw [HDD.out, Bool.false_and, Bool.and_false])))
                go_wp2
                exact bodyPost_ret (v := .tuple #[.agg #[.string ⟨#[]⟩, .int .i64 0, .int .i64 0, .int .i64 0, .int .i64 0], .bool false]) (by simp [results, Tryz.results41, go_sem, hc0, hc1, hc2, hc3, hc4]) rfl ⟨by rw [HO.out], ((((HB8.out.setCell (Nat.le_refl _) _).setCell (Nat.le_refl _) _).setCell (Nat.le_refl _) _).setCell (Nat.le_refl _) _).setCell (Nat.le_refl _) _⟩
              · rcases p3 with _ | _
                · have HO := Lib.hid (rcF_none (by rw [HP.out]; exact partsCl_no (by rw [HDD.out, Bool.false_and, Bool.and_false, Bool.and_false])))
                  go_wp2
                  exact bodyPost_ret (v := .tuple #[.agg #[.string ⟨#[]⟩, .int .i64 0, .int .i64 0, .int .i64 0, .int .i64 0], .bool false]) (by simp [results, Tryz.results41, go_sem, hc0, hc1, hc2, hc3, hc4]) rfl ⟨by rw [HO.out], ((((HB8.out.setCell (Nat.le_refl _) _).setCell (Nat.le_refl _) _).setCell (Nat.le_refl _) _).setCell (Nat.le_refl _) _).setCell (Nat.le_refl _) _⟩
                · rcases p4 with _ | _
                  · have HO := Lib.hid (rcF_none (by rw [HP.out]; exact partsCl_no (by rw [HDD.out]; rfl)))
                    go_wp2
                    exact bodyPost_ret (v := .tuple #[.agg #[.string ⟨#[]⟩, .int .i64 0, .int .i64 0, .int .i64 0, .int .i64 0], .bool false]) (by simp [results, Tryz.results41, go_sem, hc0, hc1, hc2, hc3, hc4]) rfl ⟨by rw [HO.out], ((((HB8.out.setCell (Nat.le_refl _) _).setCell (Nat.le_refl _) _).setCell (Nat.le_refl _) _).setCell (Nat.le_refl _) _).setCell (Nat.le_refl _) _⟩
                  · have hd4 : decs4 st f t q = true := by rw [HDD.out]; rfl
                    have hc4' := HCL.out hd4
                    have hxg : Cl.good ⟨nm, n1, n2, n3, n4⟩ := by refine ⟨?_, ⟨?_, ?_⟩, ⟨?_, ?_⟩, ⟨?_, ?_⟩, ⟨?_, ?_⟩⟩ <;> simp only <;> omega
                    have hzz : nm.size ≤ 9223372036854775807 := by omega
                    rcases hok : okCl ⟨nm, n1, n2, n3, n4⟩ with _ | _
                    · have HO := Lib.hid (rcF_none (by rw [HP.out]; exact partsCl_bad (by rw [hc4']; exact hok)))
                      go_wp2_with fail
                      (have hk := l24One_any ⟨nm, n1, n2, n3, n4⟩ w7.heap.size 0 wq hzz hxg e0 e1 e2 e3 e4)
                      rw [hok] at hk
                      refine hk.mono ?_
                      rintro e w9 ⟨rfl, m9, rfl⟩
                      clear hk e1 e2 e3 e4
                      go_wp2
                      exact bodyPost_ret (v := .tuple #[.agg #[.string ⟨#[]⟩, .int .i64 0, .int .i64 0, .int .i64 0, .int .i64 0], .bool false]) (by simp [results, Tryz.results41, go_sem, hc0, hc1, hc2, hc3, hc4]) rfl ⟨by rw [HO.out], (((((below_drewN HB8.out m9).setCell (Nat.le_refl _) _).setCell (Nat.le_refl _) _).setCell (Nat.le_refl _) _).setCell (Nat.le_refl _) _).setCell (Nat.le_refl _) _⟩
                    · have HO := Lib.hid (rcF_some (by rw [HP.out, partsCl_yes hd4 (by rw [hc4']; exact hok), hc4']))
                      go_wp2_with fail
                      (have hk := l24One_any ⟨nm, n1, n2, n3, n4⟩ w7.heap.size 0 wq hzz hxg e0 e1 e2 e3 e4)
                      rw [hok] at hk
                      refine hk.mono ?_
                      rintro e w9 ⟨rfl, m9, rfl⟩
                      clear hk e1 e2 e3 e4
                      go_wp2
                      exact bodyPost_ret (v := .tuple #[.agg #[.string nm, .int .i64 n1, .int .i64 n2, .int .i64 n3, .int .i64 n4], .bool true]) (by simp [results, Tryz.results41, go_sem, hc0, hc1, hc2, hc3, hc4]) rfl ⟨by rw [HO.out], (((((below_drewN HB8.out m9).setCell (Nat.le_refl _) _).setCell (Nat.le_refl _) _).setCell (Nat.le_refl _) _).setCell (Nat.le_refl _) _).setCell (Nat.le_refl _) _⟩
          · have HO := Lib.hid (rcF_none (by rw [HP.out]; exact partsCl_len (.inr hd)))
            have hc0 := y3.cellAt 0 (by simp)
            have hc1 := y3.cellAt 1 (by simp)
            have hc2 := y3.cellAt 2 (by simp)
            have hc3 := y3.cellAt 3 (by simp)
            have hc4 := y3.cellAt 4 (by simp)
            have hf0 := y3.frozen 0
            have hf1 := y3.frozen 1
            have hf2 := y3.frozen 2
            have hf3 := y3.frozen 3
            have hf4 := y3.frozen 4
            have hn22 : n2 = 2 := by omega
            have hq2 : ((n2 : Int) != 2) = false := by rw [hn22]; rfl
            have hq3 : ((n3 : Int) != 2) = true := by rw [bne_iff_ne]; omega
            clear y3 s2 s3 hl2 hl3 hn22
            go_wp2
            exact bodyPost_ret (v := .tuple #[.agg #[.string ⟨#[]⟩, .int .i64 0, .int .i64 0, .int .i64 0, .int .i64 0], .bool false]) (by simp [results, Tryz.results41, go_sem, hc0, hc1, hc2, hc3, hc4]) rfl ⟨by rw [HO.out], ((((HB3.out.setCell (Nat.le_refl _) _).setCell (Nat.le_refl _) _).setCell (Nat.le_refl _) _).setCell (Nat.le_refl _) _).setCell (Nat.le_refl _) _⟩
        · have HO := Lib.hid (rcF_none (by rw [HP.out]; exact partsCl_len (.inl hv)))
          have hc0 := y3.cellAt 0 (by simp)
          have hc1 := y3.cellAt 1 (by simp)
          have hc2 := y3.cellAt 2 (by simp)
          have hc3 := y3.cellAt 3 (by simp)
          have hc4 := y3.cellAt 4 (by simp)
          have hf0 := y3.frozen 0
          have hf1 := y3.frozen 1
          have hf2 := y3.frozen 2
          have hf3 := y3.frozen 3
          have hf4 := y3.frozen 4
          have hq2 : ((n2 : Int) != 2) = true := by rw [bne_iff_ne]; omega
          clear y3 s2 s3 hl2 hl3
          go_wp2
          exact bodyPost_ret (v := .tuple #[.agg #[.string ⟨#[]⟩, .int .i64 0, .int .i64 0, .int .i64 0, .int .i64 0], .bool false]) (by simp [results, Tryz.results41, go_sem, hc0, hc1, hc2, hc3, hc4]) rfl ⟨by rw [HO.out], ((((HB3.out.setCell (Nat.le_refl _) _).setCell (Nat.le_refl _) _).setCell (Nat.le_refl _) _).setCell (Nat.le_refl _) _).setCell (Nat.le_refl _) _⟩
      · have HO := Lib.hid (rcF_none (parseCl_x he (head_no hcs hx)))
        have hxi : ((c[0].toNat : Int) != 120) = true := by
          rw [bne_iff_ne]
          intro e
          exact hx (by rw [← UInt8.toNat_inj]; exact Int.ofNat_inj.1 e)
        have hxi2 : ((c[0].toNat : Int) == 120) = false := by
          rw [beq_eq_false_iff_ne]
          intro e
          exact hx (by rw [← UInt8.toNat_inj]; exact Int.ofNat_inj.1 e)
        clear hx
        go_enter Tryz.func41, Tryz.ntmps41
        go_wp2_with fail
        refine (l01Split_any s 32 _ hs).mono ?_
        rintro e w1 ⟨A, n, k, rfl, s1, b1⟩
        have y1 := y0.on b1
        have HB1 := Lib.hid (bnext b0 b1 (Nat.le_refl _))
        clear b1 b0 y0
        rw [he] at s1
        obtain ⟨rfl, g, rfl, c0, c1, c2⟩ := sl_strs3 s1
        clear s1
        have hc0 := y1.cellAt 0 (by simp)
        have hc1 := y1.cellAt 1 (by simp)
        have hc2 := y1.cellAt 2 (by simp)
        have hc3 := y1.cellAt 3 (by simp)
        have hc4 := y1.cellAt 4 (by simp)
        have hf0 := y1.frozen 0
        have hf1 := y1.frozen 1
        have hf2 := y1.frozen 2
        have hf3 := y1.frozen 3
        have hf4 := y1.frozen 4
        clear y1
        go_wp2
        exact bodyPost_ret (v := .tuple #[.agg #[.string ⟨#[]⟩, .int .i64 0, .int .i64 0, .int .i64 0, .int .i64 0], .bool false]) (by simp [results, Tryz.results41, go_sem, hc0, hc1, hc2, hc3, hc4]) rfl ⟨by rw [HO.out], ((((HB1.out.setCell (Nat.le_refl _) _).setCell (Nat.le_refl _) _).setCell (Nat.le_refl _) _).setCell (Nat.le_refl _) _).setCell (Nat.le_refl _) _⟩
  · have HO := Lib.hid (rcF_none (parseCl_three h3))
    go_enter Tryz.func41, Tryz.ntmps41
    go_wp2_with fail
    refine (l01Split_any s 32 _ hs).mono ?_
    rintro e w1 ⟨A, n, k, rfl, s1, b1⟩
    have y1 := y0.on b1
    have HB1 := Lib.hid (bnext b0 b1 (Nat.le_refl _))
    clear b1 b0 y0
    have hn := s1.len
    simp only [strs, List.length_map, Nat.mul_one] at hn
    have hn3 : ((n : Int) != 3) = true := by rw [bne_iff_ne]; omega
    have hc0 := y1.cellAt 0 (by simp)
    have hc1 := y1.cellAt 1 (by simp)
    have hc2 := y1.cellAt 2 (by simp)
    have hc3 := y1.cellAt 3 (by simp)
    have hc4 := y1.cellAt 4 (by simp)
    have hf0 := y1.frozen 0
    have hf1 := y1.frozen 1
    have hf2 := y1.frozen 2
    have hf3 := y1.frozen 3
    have hf4 := y1.frozen 4
    clear s1 y1
    go_wp2
    exact bodyPost_ret (v := .tuple #[.agg #[.string ⟨#[]⟩, .int .i64 0, .int .i64 0, .int .i64 0, .int .i64 0], .bool false]) (by simp [results, Tryz.results41, go_sem, hc0, hc1, hc2, hc3, hc4]) rfl ⟨by rw [HO.out], ((((HB1.out.setCell (Nat.le_refl _) _).setCell (Nat.le_refl _) _).setCell (Nat.le_refl _) _).setCell (Nat.le_refl _) _).setCell (Nat.le_refl _) _⟩
end Go.Proofs.YtjmlcobbjpmjpaaGreatDoor
namespace Go.Proofs.YtjmlcobbjpmjpaaGreatDoor
open Go.RowKit

set_option maxHeartbeats 4000000 in
theorem l24Ok_any (A : Option Addr) (n c : Nat) (l : List Cl) (B : Nat) (w : World) (h : Reads w B 5 A n (cls l)) (hB : B ≤ w.heap.size) (hn : n ≤ 1048576) (hsm : ∀ x ∈ l, x.small) (hgd : ∀ x ∈ l, x.good) :
    Calls Tryz.prog 95 #[.slice A n c] w fun e w' => e = .returned (.bool (okCls l)) ∧ Below w.heap.size w w' := by
  have hl := Lib.hid (cls_len h)
  have HSM := Lib.hid hsm
  have HGD := Lib.hid hgd
  clear hsm hgd
  go_enter Tryz.func95, Tryz.ntmps95
  go_wp2
  go_loopw [3] (fun i wr => ∃ k : Nat, k ≤ n ∧ i = .int .i64 k ∧ AllTo (rowCl l) (List.range n) k ∧ Below w.heap.size w wr) (fun i _ => n - (intOf i).toNat)
  case atStart => exact ⟨0, Nat.zero_le _, rfl, AllTo.zero _ _, Below.refl _ _⟩
  case round =>
    obtain ⟨k, hk, rfl, hall, hbel⟩ := hrel
    have HA := Lib.hid hall
    have HBe := Lib.hid hbel
    clear hall
    by_cases hlt : k < n
    · obtain ⟨x, b, off, he, rfl, hb, c0, c1, c2, c3, c4⟩ := cl_at (h.on hB hbel) hlt
      have hs : x.name.size ≤ 9223372036854775807 := by have := HSM.out x (List.mem_of_getElem? he); unfold Cl.small at this; omega
      have hone : ∀ W, (∃ m, W = wr.drewN m) → Calls Tryz.prog 96 #[.pointer (some ⟨b, off + k * 5, none⟩)] W fun e w' => e = .returned (.bool (okCl x)) ∧ ∃ m, w' = W.drewN m := fun W ⟨m, hW⟩ => by subst hW; exact l24One_any x b _ _ hs (HGD.out x (List.mem_of_getElem? he)) c0 c1 c2 c3 c4
      have HE := Lib.hid he
      have hi0 : (0 : Int) ≤ k := by omega
      have hi1 : (k : Int) < n := by omega
      rcases hx : okCl x with _ | _
      · have HO := Lib.hid (show okCls l = false by simp only [okCls, all_bad (crange_at (show k < l.length by have := hl.out; omega)) (rowCl_bad HE.out hx), Bool.false_and])
        rw [hx] at hone
        have HOne := Lib.hid hone
        clear he hone h hbel c0 c1 c2 c3 c4 HE hx
        go_wp2_with fail
        go_quiet ((go_at_call 96; exact Calls.quiet_of (HOne.out _ ⟨_, rfl⟩)))
        go_wp2
        go_ret
        exact ⟨ret_bool HO.out.symm, below_drewN HBe.out _⟩
      · rw [hx] at hone
        have HOne := Lib.hid hone
        by_cases hk0 : k = 0
        · subst hk0
          have HR := Lib.hid (rowCl_zero HE.out hx)
          clear he hone h hbel c0 c1 c2 c3 c4 HE hx
          have hg0 : decide ((0 : Int) < ((0 : Nat) : Int)) = false := by decide
          go_wp2_with fail
          go_quiet ((go_at_call 96; exact Calls.quiet_of (HOne.out _ ⟨_, rfl⟩)))
          go_wp2
          go_roundw
          case rel => exact ⟨1, by omega, by go_num, HA.out.step (crange_at hlt) HR.out, below_drewN HBe.out _⟩
          case measure => simp [intOf]; omega
        · obtain ⟨j, rfl⟩ : ∃ j, k = j + 1 := ⟨k - 1, by omega⟩
          obtain ⟨y, b', off', hy, e2, hb', d0, d1, d2, d3, d4⟩ := cl_at (k := j) (h.on hB hbel) (by omega)
          injection e2 with e2; injection e2 with e2 e2'; subst e2; subst e2'
          have hj0 : (0 : Int) ≤ j := by omega
          have hj1 : (j : Int) < n := by omega
          have hj2 : (j : Int) + 1 < n := by omega
          have hg0 : decide ((0 : Int) < (j : Int) + 1) = true := decide_eq_true (by omega)
          rcases hd : Op.bytesLess y.name.toList x.name.toList with _ | _
          · have HO := Lib.hid (show okCls l = false by simp only [okCls, all_bad (crange_at (show j + 1 < l.length by have := hl.out; omega)) (rowCl_late HE.out (by omega) (by simpa using hy) hd), Bool.false_and])
            clear he hone h hbel c1 c2 c3 c4 d1 d2 d3 d4 hy hk0 HE hx
            go_wp2_with fail
            go_quiet ((go_at_call 96; exact Calls.quiet_of (HOne.out _ ⟨_, rfl⟩)))
            go_wp2
            go_ret
            exact ⟨ret_bool HO.out.symm, below_drewN HBe.out _⟩
          · have HR := Lib.hid (rowCl_ok HE.out hx (by simpa using hy) hd)
            clear he hone h hbel c1 c2 c3 c4 d1 d2 d3 d4 hy hk0 HE hx
            go_wp2_with fail
            go_quiet ((go_at_call 96; exact Calls.quiet_of (HOne.out _ ⟨_, rfl⟩)))
            go_wp2
            go_roundw
            case rel => exact ⟨j + 1 + 1, by omega, by go_num, HA.out.step (crange_at hlt) HR.out, below_drewN HBe.out _⟩
            case measure => simp [intOf]; omega
    · obtain rfl : k = n := by omega
      have HO := Lib.hid (show okCls l = decide (k ≤ 30) by simp only [okCls, hl.out, HA.out.done (by simp)]; simp)
      go_wp2
      go_ret
      exact ⟨ret_bool (by rw [HO.out]; simp; omega), hbel⟩

set_option maxHeartbeats 4000000 in
theorem implValidClients_any (A : Option Addr) (n c : Nat) (l : List Cl) (B : Nat) (w : World) (h : Reads w B 5 A n (cls l)) (hB : B ≤ w.heap.size) (hn : n ≤ 1048576) (hsm : ∀ x ∈ l, x.small) (hgd : ∀ x ∈ l, x.good) :
    Calls Tryz.prog 46 #[.slice A n c] w fun e w' => e = .returned (.bool (okCls l)) ∧ Below w.heap.size w w' := by
  have hl := Lib.hid (cls_len h)
  have HSM := Lib.hid hsm
  clear hsm hgd
  go_enter Tryz.func46, Tryz.ntmps46
  go_wp2
  go_loopw [7] (fun i wr => ∃ k : Nat, k ≤ n ∧ i = .int .i64 k ∧ AllTo (rowCl l) (List.range n) k ∧ Below w.heap.size w wr) (fun i _ => n - (intOf i).toNat)
  case atStart => exact ⟨0, Nat.zero_le _, rfl, AllTo.zero _ _, Below.refl _ _⟩
  case round =>
    obtain ⟨k, hk, rfl, hall, hbel⟩ := hrel
    have HA := Lib.hid hall
    have HBe := Lib.hid hbel
    clear hall
    by_cases hlt : k < n
    · obtain ⟨x, b, off, he, rfl, hb, c0, c1, c2, c3, c4⟩ := cl_at (h.on hB hbel) hlt
      have hs : x.name.size ≤ 9223372036854775807 := by have := HSM.out x (List.mem_of_getElem? he); unfold Cl.small at this; omega
      have HE := Lib.hid he
      have hi0 : (0 : Int) ≤ k := by omega
      have hi1 : (k : Int) < n := by omega
      rcases hx : okCl x with _ | _
      · have HO := Lib.hid (show okCls l = false by simp only [okCls, all_bad (crange_at (show k < l.length by have := hl.out; omega)) (rowCl_bad HE.out hx), Bool.false_and])
        have HVC := Lib.hid (show ∀ W : World, Calls Tryz.prog 91 #[.agg #[.string x.name, .int .i64 x.station, .int .i64 x.from_, .int .i64 x.to_, .int .i64 x.quota]] W fun e w' => e = .returned (.bool false) ∧ Below W.heap.size W w' from fun W => (validClient_any x W hs).mono fun _ _ hh => ⟨by rw [hh.1, hx], hh.2⟩)
        clear he h hbel HE hx
        go_wp2_with fail
        obtain ⟨wq, hwq⟩ : ∃ y, wr.alloc (.cells #[.string x.name, .int .i64 x.station, .int .i64 x.from_, .int .i64 x.to_, .int .i64 x.quota] 48) = y := ⟨_, rfl⟩
        have bx : Blk wq wr.heap.size 48 #[.string x.name, .int .i64 x.station, .int .i64 x.from_, .int .i64 x.to_, .int .i64 x.quota] := by rw [← hwq]; exact Blk.new _ _ _
        have bq : Below wr.heap.size wr wq := by rw [← hwq]; exact (Below.refl _ _).alloc (Nat.le_refl _) _
        rw [hwq]
        have q0 : wq.cell? ⟨wr.heap.size, 0, none⟩ = some (.string x.name) := bx.cellAt 0 (by simp)
        have q1 : wq.cell? ⟨wr.heap.size, 1, none⟩ = some (.int .i64 x.station) := bx.cellAt 1 (by simp)
        have q2 : wq.cell? ⟨wr.heap.size, 2, none⟩ = some (.int .i64 x.from_) := bx.cellAt 2 (by simp)
        have q3 : wq.cell? ⟨wr.heap.size, 3, none⟩ = some (.int .i64 x.to_) := bx.cellAt 3 (by simp)
        have q4 : wq.cell? ⟨wr.heap.size, 4, none⟩ = some (.int .i64 x.quota) := bx.cellAt 4 (by simp)
        have HBq := Lib.hid (bnext HBe.out bq (Nat.le_refl _))
        clear hwq bx bq c0 c1 c2 c3 c4
        refine wp_region_any (by kernel_rfl) ?_
        try (change wpAny _ _ _ _ _ _ _ (World.drew _))
        refine wpAny_ready (rs := [0]) (by kernel_rfl) (by simp) (AllReady.cons rfl (fun K hK => ?_) AllReady.nil)
        go_simp
        refine hK _ _ ?_
        clear hK K
        try simp only [Act.put, List.getElem_toArray, List.getElem_cons_succ, List.getElem_cons_zero, List.setIfInBounds_toArray, List.set_cons_zero, List.set_cons_succ]
        refine wpAny_ready (rs := [1]) (by kernel_rfl) (by simp) (AllReady.cons rfl (fun K hK => ?_) AllReady.nil)
        go_simp
        go_wp2_with ((go_at_call 91; refine (HVC.out _).mono ?_; rintro e w1 ⟨rfl, hb1⟩))
        try simp only [Act.put, List.getElem_toArray, List.getElem_cons_succ, List.getElem_cons_zero, List.setIfInBounds_toArray, List.set_cons_zero, List.set_cons_succ]
        refine wpAny_take (i := 2) (v := ?_) rfl (by kernel_rfl) (by kernel_rfl) (by kernel_rfl) (fun _ _ _ h => h) (Or.inl ⟨by kernel_rfl, ?_⟩) ?_
        rotate_left 1
        · intro w; go_simp; try with_reducible rfl
        try simp only [Act.put, List.getElem_toArray, List.getElem_cons_succ, List.getElem_cons_zero, List.setIfInBounds_toArray, List.set_cons_zero, List.set_cons_succ]
        refine wpAny_take (i := 3) (v := ?_) rfl (by kernel_rfl) (by kernel_rfl) (by kernel_rfl) (fun _ _ _ h => h) (Or.inl ⟨by kernel_rfl, ?_⟩) ?_
        rotate_left 1
        · intro w; go_simp; try with_reducible rfl
        try simp only [Act.put, List.getElem_toArray, List.getElem_cons_succ, List.getElem_cons_zero, List.setIfInBounds_toArray, List.set_cons_zero, List.set_cons_succ]
        refine wpAny_take (i := 4) (v := undef) rfl (by kernel_rfl) (by kernel_rfl) (by kernel_rfl) (fun _ _ _ h => h) (Or.inr ⟨by kernel_rfl, rfl⟩) ?_
        try simp only [Act.put, List.getElem_toArray, List.getElem_cons_succ, List.getElem_cons_zero, List.setIfInBounds_toArray, List.set_cons_zero, List.set_cons_succ]
        refine wpAny_take (i := 5) (v := undef) rfl (by kernel_rfl) (by kernel_rfl) (by kernel_rfl) (fun _ _ _ h => h) (Or.inr ⟨by kernel_rfl, rfl⟩) ?_
        try simp only [Act.put, List.getElem_toArray, List.getElem_cons_succ, List.getElem_cons_zero, List.setIfInBounds_toArray, List.set_cons_zero, List.set_cons_succ]
        refine wpAny_take (i := 6) (v := undef) rfl (by kernel_rfl) (by kernel_rfl) (by kernel_rfl) (fun _ _ _ h => h) (Or.inr ⟨by kernel_rfl, rfl⟩) ?_
        try simp only [Act.put, List.getElem_toArray, List.getElem_cons_succ, List.getElem_cons_zero, List.setIfInBounds_toArray, List.set_cons_zero, List.set_cons_succ]
        refine wpAny_take (i := 7) (v := undef) rfl (by kernel_rfl) (by kernel_rfl) (by kernel_rfl) (fun _ _ _ h => h) (Or.inr ⟨by kernel_rfl, rfl⟩) ?_
        try simp only [Act.put, List.getElem_toArray, List.getElem_cons_succ, List.getElem_cons_zero, List.setIfInBounds_toArray, List.set_cons_zero, List.set_cons_succ]
        refine wpAny_take (i := 8) (v := undef) rfl (by kernel_rfl) (by kernel_rfl) (by kernel_rfl) (fun _ _ _ h => h) (Or.inr ⟨by kernel_rfl, rfl⟩) ?_
        try simp only [Act.put, List.getElem_toArray, List.getElem_cons_succ, List.getElem_cons_zero, List.setIfInBounds_toArray, List.set_cons_zero, List.set_cons_succ]
        refine wpAny_take (i := 9) (v := undef) rfl (by kernel_rfl) (by kernel_rfl) (by kernel_rfl) (fun _ _ _ h => h) (Or.inr ⟨by kernel_rfl, rfl⟩) ?_
        try simp only [Act.put, List.getElem_toArray, List.getElem_cons_succ, List.getElem_cons_zero, List.setIfInBounds_toArray, List.set_cons_zero, List.set_cons_succ]
        refine wpAny_take (i := 10) (v := undef) rfl (by kernel_rfl) (by kernel_rfl) (by kernel_rfl) (fun _ _ _ h => h) (Or.inr ⟨by kernel_rfl, rfl⟩) ?_
        try simp only [Act.put, List.getElem_toArray, List.getElem_cons_succ, List.getElem_cons_zero, List.setIfInBounds_toArray, List.set_cons_zero, List.set_cons_succ]
        refine wpAny_take (i := 11) (v := undef) rfl (by kernel_rfl) (by kernel_rfl) (by kernel_rfl) (fun _ _ _ h => h) (Or.inr ⟨by kernel_rfl, rfl⟩) ?_
        try simp only [Act.put, List.getElem_toArray, List.getElem_cons_succ, List.getElem_cons_zero, List.setIfInBounds_toArray, List.set_cons_zero, List.set_cons_succ]
        refine wpAny_take (i := 12) (v := undef) rfl (by kernel_rfl) (by kernel_rfl) (by kernel_rfl) (fun _ _ _ h => h) (Or.inr ⟨by kernel_rfl, rfl⟩) ?_
        try simp only [Act.put, List.getElem_toArray, List.getElem_cons_succ, List.getElem_cons_zero, List.setIfInBounds_toArray, List.set_cons_zero, List.set_cons_succ]
        refine wpAny_take (i := 13) (v := undef) rfl (by kernel_rfl) (by kernel_rfl) (by kernel_rfl) (fun _ _ _ h => h) (Or.inr ⟨by kernel_rfl, rfl⟩) ?_
        try simp only [Act.put, List.getElem_toArray, List.getElem_cons_succ, List.getElem_cons_zero, List.setIfInBounds_toArray, List.set_cons_zero, List.set_cons_succ]
        refine wpAny_take (i := 14) (v := undef) rfl (by kernel_rfl) (by kernel_rfl) (by kernel_rfl) (fun _ _ _ h => h) (Or.inr ⟨by kernel_rfl, rfl⟩) ?_
        try simp only [Act.put, List.getElem_toArray, List.getElem_cons_succ, List.getElem_cons_zero, List.setIfInBounds_toArray, List.set_cons_zero, List.set_cons_succ]
        refine wpAny_take (i := 15) (v := undef) rfl (by kernel_rfl) (by kernel_rfl) (by kernel_rfl) (fun _ _ _ h => h) (Or.inr ⟨by kernel_rfl, rfl⟩) ?_
        try simp only [Act.put, List.getElem_toArray, List.getElem_cons_succ, List.getElem_cons_zero, List.setIfInBounds_toArray, List.set_cons_zero, List.set_cons_succ]
        refine wpAny_take (i := 16) (v := undef) rfl (by kernel_rfl) (by kernel_rfl) (by kernel_rfl) (fun _ _ _ h => h) (Or.inr ⟨by kernel_rfl, rfl⟩) ?_
        try simp only [Act.put, List.getElem_toArray, List.getElem_cons_succ, List.getElem_cons_zero, List.setIfInBounds_toArray, List.set_cons_zero, List.set_cons_succ]
        refine wpAny_take (i := 17) (v := ?_) rfl (by kernel_rfl) (by kernel_rfl) (by kernel_rfl) (fun _ _ _ h => h) (Or.inl ⟨by kernel_rfl, ?_⟩) ?_
        rotate_left 1
        · intro w; go_simp; try with_reducible rfl
        try simp only [Act.put, List.getElem_toArray, List.getElem_cons_succ, List.getElem_cons_zero, List.setIfInBounds_toArray, List.set_cons_zero, List.set_cons_succ]
        refine wpAny_done (by kernel_rfl) ?_ _
        have HF := Lib.hid (bnext (below_drewN HBq.out 1) hb1 (Nat.le_refl _))
        clear hb1 q0 q1 q2 q3 q4
        go_wp2_with fail
        go_ret
        exact ⟨ret_bool HO.out.symm, HF.out⟩
      · have HVC := Lib.hid (show ∀ W : World, Calls Tryz.prog 91 #[.agg #[.string x.name, .int .i64 x.station, .int .i64 x.from_, .int .i64 x.to_, .int .i64 x.quota]] W fun e w' => e = .returned (.bool true) ∧ Below W.heap.size W w' from fun W => (validClient_any x W hs).mono fun _ _ hh => ⟨by rw [hh.1, hx], hh.2⟩)
        by_cases hk0 : k = 0
        · subst hk0
          have HR := Lib.hid (rowCl_zero HE.out hx)
          simp only [Nat.zero_mul, Nat.add_zero] at c0 c1 c2 c3 c4
          clear he h hbel HE hx
          go_wp2_with fail
          obtain ⟨wq, hwq⟩ : ∃ y, wr.alloc (.cells #[.string x.name, .int .i64 x.station, .int .i64 x.from_, .int .i64 x.to_, .int .i64 x.quota] 48) = y := ⟨_, rfl⟩
          have bx : Blk wq wr.heap.size 48 #[.string x.name, .int .i64 x.station, .int .i64 x.from_, .int .i64 x.to_, .int .i64 x.quota] := by rw [← hwq]; exact Blk.new _ _ _
          have bq : Below wr.heap.size wr wq := by rw [← hwq]; exact (Below.refl _ _).alloc (Nat.le_refl _) _
          rw [hwq]
          have q0 : wq.cell? ⟨wr.heap.size, 0, none⟩ = some (.string x.name) := bx.cellAt 0 (by simp)
          have q1 : wq.cell? ⟨wr.heap.size, 1, none⟩ = some (.int .i64 x.station) := bx.cellAt 1 (by simp)
          have q2 : wq.cell? ⟨wr.heap.size, 2, none⟩ = some (.int .i64 x.from_) := bx.cellAt 2 (by simp)
          have q3 : wq.cell? ⟨wr.heap.size, 3, none⟩ = some (.int .i64 x.to_) := bx.cellAt 3 (by simp)
          have q4 : wq.cell? ⟨wr.heap.size, 4, none⟩ = some (.int .i64 x.quota) := bx.cellAt 4 (by simp)
          have HBq := Lib.hid (bnext HBe.out bq (Nat.le_refl _))
          clear hwq bx bq c0 c1 c2 c3 c4
          refine wp_region_any (by kernel_rfl) ?_
          try (change wpAny _ _ _ _ _ _ _ (World.drew _))
          refine wpAny_ready (rs := [0]) (by kernel_rfl) (by simp) (AllReady.cons rfl (fun K hK => ?_) AllReady.nil)
          go_simp
          refine hK _ _ ?_
          clear hK K
          try simp only [Act.put, List.getElem_toArray, List.getElem_cons_succ, List.getElem_cons_zero, List.setIfInBounds_toArray, List.set_cons_zero, List.set_cons_succ]
          refine wpAny_ready (rs := [1]) (by kernel_rfl) (by simp) (AllReady.cons rfl (fun K hK => ?_) AllReady.nil)
          go_simp
          go_wp2_with ((go_at_call 91; refine (HVC.out _).mono ?_; rintro e w1 ⟨rfl, hb1⟩))
          try simp only [Act.put, List.getElem_toArray, List.getElem_cons_succ, List.getElem_cons_zero, List.setIfInBounds_toArray, List.set_cons_zero, List.set_cons_succ]
          refine wpAny_take (i := 2) (v := ?_) rfl (by kernel_rfl) (by kernel_rfl) (by kernel_rfl) (fun _ _ _ h => h) (Or.inl ⟨by kernel_rfl, ?_⟩) ?_
          rotate_left 1
          · intro w; go_simp; try with_reducible rfl
          try simp only [Act.put, List.getElem_toArray, List.getElem_cons_succ, List.getElem_cons_zero, List.setIfInBounds_toArray, List.set_cons_zero, List.set_cons_succ]
          refine wpAny_take (i := 3) (v := ?_) rfl (by kernel_rfl) (by kernel_rfl) (by kernel_rfl) (fun _ _ _ h => h) (Or.inl ⟨by kernel_rfl, ?_⟩) ?_
          rotate_left 1
          · intro w; go_simp; try with_reducible rfl
          try simp only [Act.put, List.getElem_toArray, List.getElem_cons_succ, List.getElem_cons_zero, List.setIfInBounds_toArray, List.set_cons_zero, List.set_cons_succ]
          refine wpAny_take (i := 4) (v := ?_) rfl (by kernel_rfl) (by kernel_rfl) (by kernel_rfl) (fun _ _ _ h => h) (Or.inl ⟨by kernel_rfl, ?_⟩) ?_
          rotate_left 1
          · intro w; go_simp; try with_reducible rfl
          try simp only [Act.put, List.getElem_toArray, List.getElem_cons_succ, List.getElem_cons_zero, List.setIfInBounds_toArray, List.set_cons_zero, List.set_cons_succ]
          refine wpAny_take (i := 5) (v := ?_) rfl (by kernel_rfl) (by kernel_rfl) (by kernel_rfl) (fun _ _ _ h => h) (Or.inl ⟨by kernel_rfl, ?_⟩) ?_
          rotate_left 1
          · intro w; go_simp; try with_reducible rfl
          try simp only [Act.put, List.getElem_toArray, List.getElem_cons_succ, List.getElem_cons_zero, List.setIfInBounds_toArray, List.set_cons_zero, List.set_cons_succ]
          refine wpAny_take (i := 6) (v := ?_) rfl (by kernel_rfl) (by kernel_rfl) (by kernel_rfl) (fun _ _ _ h => h) (Or.inl ⟨by kernel_rfl, ?_⟩) ?_
          rotate_left 1
          · intro w; go_simp; try with_reducible rfl
          try simp only [Act.put, List.getElem_toArray, List.getElem_cons_succ, List.getElem_cons_zero, List.setIfInBounds_toArray, List.set_cons_zero, List.set_cons_succ]
          refine wpAny_take (i := 7) (v := undef) rfl (by kernel_rfl) (by kernel_rfl) (by kernel_rfl) (fun _ _ _ h => h) (Or.inr ⟨by kernel_rfl, rfl⟩) ?_
          try simp only [Act.put, List.getElem_toArray, List.getElem_cons_succ, List.getElem_cons_zero, List.setIfInBounds_toArray, List.set_cons_zero, List.set_cons_succ]
          refine wpAny_take (i := 8) (v := undef) rfl (by kernel_rfl) (by kernel_rfl) (by kernel_rfl) (fun _ _ _ h => h) (Or.inr ⟨by kernel_rfl, rfl⟩) ?_
          try simp only [Act.put, List.getElem_toArray, List.getElem_cons_succ, List.getElem_cons_zero, List.setIfInBounds_toArray, List.set_cons_zero, List.set_cons_succ]
          refine wpAny_take (i := 9) (v := undef) rfl (by kernel_rfl) (by kernel_rfl) (by kernel_rfl) (fun _ _ _ h => h) (Or.inr ⟨by kernel_rfl, rfl⟩) ?_
          try simp only [Act.put, List.getElem_toArray, List.getElem_cons_succ, List.getElem_cons_zero, List.setIfInBounds_toArray, List.set_cons_zero, List.set_cons_succ]
          refine wpAny_take (i := 10) (v := undef) rfl (by kernel_rfl) (by kernel_rfl) (by kernel_rfl) (fun _ _ _ h => h) (Or.inr ⟨by kernel_rfl, rfl⟩) ?_
          try simp only [Act.put, List.getElem_toArray, List.getElem_cons_succ, List.getElem_cons_zero, List.setIfInBounds_toArray, List.set_cons_zero, List.set_cons_succ]
          refine wpAny_take (i := 11) (v := undef) rfl (by kernel_rfl) (by kernel_rfl) (by kernel_rfl) (fun _ _ _ h => h) (Or.inr ⟨by kernel_rfl, rfl⟩) ?_
          try simp only [Act.put, List.getElem_toArray, List.getElem_cons_succ, List.getElem_cons_zero, List.setIfInBounds_toArray, List.set_cons_zero, List.set_cons_succ]
          refine wpAny_take (i := 12) (v := undef) rfl (by kernel_rfl) (by kernel_rfl) (by kernel_rfl) (fun _ _ _ h => h) (Or.inr ⟨by kernel_rfl, rfl⟩) ?_
          try simp only [Act.put, List.getElem_toArray, List.getElem_cons_succ, List.getElem_cons_zero, List.setIfInBounds_toArray, List.set_cons_zero, List.set_cons_succ]
          refine wpAny_take (i := 13) (v := undef) rfl (by kernel_rfl) (by kernel_rfl) (by kernel_rfl) (fun _ _ _ h => h) (Or.inr ⟨by kernel_rfl, rfl⟩) ?_
          try simp only [Act.put, List.getElem_toArray, List.getElem_cons_succ, List.getElem_cons_zero, List.setIfInBounds_toArray, List.set_cons_zero, List.set_cons_succ]
          refine wpAny_take (i := 14) (v := undef) rfl (by kernel_rfl) (by kernel_rfl) (by kernel_rfl) (fun _ _ _ h => h) (Or.inr ⟨by kernel_rfl, rfl⟩) ?_
          try simp only [Act.put, List.getElem_toArray, List.getElem_cons_succ, List.getElem_cons_zero, List.setIfInBounds_toArray, List.set_cons_zero, List.set_cons_succ]
          refine wpAny_take (i := 15) (v := undef) rfl (by kernel_rfl) (by kernel_rfl) (by kernel_rfl) (fun _ _ _ h => h) (Or.inr ⟨by kernel_rfl, rfl⟩) ?_
          try simp only [Act.put, List.getElem_toArray, List.getElem_cons_succ, List.getElem_cons_zero, List.setIfInBounds_toArray, List.set_cons_zero, List.set_cons_succ]
          refine wpAny_take (i := 16) (v := ?_) rfl (by kernel_rfl) (by kernel_rfl) (by kernel_rfl) (fun _ _ _ h => h) (Or.inl ⟨by kernel_rfl, ?_⟩) ?_
          rotate_left 1
          · intro w; go_simp; try with_reducible rfl
          try simp only [Act.put, List.getElem_toArray, List.getElem_cons_succ, List.getElem_cons_zero, List.setIfInBounds_toArray, List.set_cons_zero, List.set_cons_succ]
          refine wpAny_take (i := 17) (v := ?_) rfl (by kernel_rfl) (by kernel_rfl) (by kernel_rfl) (fun _ _ _ h => h) (Or.inl ⟨by kernel_rfl, ?_⟩) ?_
          rotate_left 1
          · intro w; go_simp; try with_reducible rfl
          try simp only [Act.put, List.getElem_toArray, List.getElem_cons_succ, List.getElem_cons_zero, List.setIfInBounds_toArray, List.set_cons_zero, List.set_cons_succ]
          refine wpAny_done (by kernel_rfl) ?_ _
          have HF := Lib.hid (bnext (below_drewN HBq.out 1) hb1 (Nat.le_refl _))
          clear hb1 q0 q1 q2 q3 q4
          go_wp2_with fail
          go_roundw
          case rel => exact ⟨1, by omega, by go_num, HA.out.step (crange_at hlt) HR.out, HF.out⟩
          case measure => simp [intOf]; omega
        · obtain ⟨j, rfl⟩ : ∃ j, k = j + 1 := ⟨k - 1, by omega⟩
          obtain ⟨y, b', off', hy, e2, hb', d0, d1, d2, d3, d4⟩ := cl_at (k := j) (h.on hB hbel) (by omega)
          injection e2 with e2; injection e2 with e2 e2'; subst e2; subst e2'
          have hj0 : (0 : Int) ≤ j := by omega
          have hj1 : (j : Int) < n := by omega
          have hj2 : (j : Int) + 1 < n := by omega
          have hg0 : decide ((0 : Int) < (j : Int) + 1) = true := decide_eq_true (by omega)
          rcases hd : Op.bytesLess y.name.toList x.name.toList with _ | _
          · have HO := Lib.hid (show okCls l = false by simp only [okCls, all_bad (crange_at (show j + 1 < l.length by have := hl.out; omega)) (rowCl_late HE.out (by omega) (by simpa using hy) hd), Bool.false_and])
            clear he h hbel d1 d2 d3 d4 hy hk0 HE hx
            go_wp2_with fail
            obtain ⟨wq, hwq⟩ : ∃ y, wr.alloc (.cells #[.string x.name, .int .i64 x.station, .int .i64 x.from_, .int .i64 x.to_, .int .i64 x.quota] 48) = y := ⟨_, rfl⟩
            have bx : Blk wq wr.heap.size 48 #[.string x.name, .int .i64 x.station, .int .i64 x.from_, .int .i64 x.to_, .int .i64 x.quota] := by rw [← hwq]; exact Blk.new _ _ _
            have bq : Below wr.heap.size wr wq := by rw [← hwq]; exact (Below.refl _ _).alloc (Nat.le_refl _) _
            rw [hwq]
            have q0 : wq.cell? ⟨wr.heap.size, 0, none⟩ = some (.string x.name) := bx.cellAt 0 (by simp)
            have q1 : wq.cell? ⟨wr.heap.size, 1, none⟩ = some (.int .i64 x.station) := bx.cellAt 1 (by simp)
            have q2 : wq.cell? ⟨wr.heap.size, 2, none⟩ = some (.int .i64 x.from_) := bx.cellAt 2 (by simp)
            have q3 : wq.cell? ⟨wr.heap.size, 3, none⟩ = some (.int .i64 x.to_) := bx.cellAt 3 (by simp)
            have q4 : wq.cell? ⟨wr.heap.size, 4, none⟩ = some (.int .i64 x.quota) := bx.cellAt 4 (by simp)
            have HBq := Lib.hid (bnext HBe.out bq (Nat.le_refl _))
            replace d0 := cell_on bq d0
            clear hwq bx bq c0 c1 c2 c3 c4
            have hw : IntKind.i64.wrap ((j : Int) + 1 - 1) = j := by rw [IntWalk.i64_in _ (by omega)]; omega
            have hw2 : IntKind.i64.wrap (j : Int) = j := IntWalk.i64_in _ (by omega)
            go_region_held3 (fun W => Below wq.heap.size wq W ∧ W.cell? ⟨wr.heap.size, 0, none⟩ = some (.string x.name) ∧ W.cell? ⟨wr.heap.size, 1, none⟩ = some (.int .i64 x.station) ∧ W.cell? ⟨wr.heap.size, 2, none⟩ = some (.int .i64 x.from_) ∧ W.cell? ⟨wr.heap.size, 3, none⟩ = some (.int .i64 x.to_) ∧ W.cell? ⟨wr.heap.size, 4, none⟩ = some (.int .i64 x.quota) ∧ W.cell? ⟨b, off + j * 5, none⟩ = some (.string y.name)) (first | exact ⟨(Below.refl _ _).drew, q0, q1, q2, q3, q4, d0⟩ | (go_split_ands; exact ⟨bnext (by assumption) hb1 (Nat.le_refl _), cell_on hb1 (by assumption), cell_on hb1 (by assumption), cell_on hb1 (by assumption), cell_on hb1 (by assumption), cell_on hb1 (by assumption), cell_on hb1 (by assumption)⟩)) (first | (go_at_call 91; refine (HVC.out _).mono ?_; rintro e w1 ⟨rfl, hb1⟩))
            rename_i hS
            have HF := Lib.hid (bnext HBq.out hS.1 (Nat.le_refl _))
            clear hS hb1 q0 q1 q2 q3 q4 d0 hw hw2
            go_wp2_with fail
            go_ret
            exact ⟨ret_bool HO.out.symm, HF.out⟩
          · have HR := Lib.hid (rowCl_ok HE.out hx (by simpa using hy) hd)
            clear he h hbel d1 d2 d3 d4 hy hk0 HE hx
            go_wp2_with fail
            obtain ⟨wq, hwq⟩ : ∃ y, wr.alloc (.cells #[.string x.name, .int .i64 x.station, .int .i64 x.from_, .int .i64 x.to_, .int .i64 x.quota] 48) = y := ⟨_, rfl⟩
            have bx : Blk wq wr.heap.size 48 #[.string x.name, .int .i64 x.station, .int .i64 x.from_, .int .i64 x.to_, .int .i64 x.quota] := by rw [← hwq]; exact Blk.new _ _ _
            have bq : Below wr.heap.size wr wq := by rw [← hwq]; exact (Below.refl _ _).alloc (Nat.le_refl _) _
            rw [hwq]
            have q0 : wq.cell? ⟨wr.heap.size, 0, none⟩ = some (.string x.name) := bx.cellAt 0 (by simp)
            have q1 : wq.cell? ⟨wr.heap.size, 1, none⟩ = some (.int .i64 x.station) := bx.cellAt 1 (by simp)
            have q2 : wq.cell? ⟨wr.heap.size, 2, none⟩ = some (.int .i64 x.from_) := bx.cellAt 2 (by simp)
            have q3 : wq.cell? ⟨wr.heap.size, 3, none⟩ = some (.int .i64 x.to_) := bx.cellAt 3 (by simp)
            have q4 : wq.cell? ⟨wr.heap.size, 4, none⟩ = some (.int .i64 x.quota) := bx.cellAt 4 (by simp)
            have HBq := Lib.hid (bnext HBe.out bq (Nat.le_refl _))
            replace d0 := cell_on bq d0
            clear hwq bx bq c0 c1 c2 c3 c4
            have hw : IntKind.i64.wrap ((j : Int) + 1 - 1) = j := by rw [IntWalk.i64_in _ (by omega)]; omega
            have hw2 : IntKind.i64.wrap (j : Int) = j := IntWalk.i64_in _ (by omega)
            go_region_held3 (fun W => Below wq.heap.size wq W ∧ W.cell? ⟨wr.heap.size, 0, none⟩ = some (.string x.name) ∧ W.cell? ⟨wr.heap.size, 1, none⟩ = some (.int .i64 x.station) ∧ W.cell? ⟨wr.heap.size, 2, none⟩ = some (.int .i64 x.from_) ∧ W.cell? ⟨wr.heap.size, 3, none⟩ = some (.int .i64 x.to_) ∧ W.cell? ⟨wr.heap.size, 4, none⟩ = some (.int .i64 x.quota) ∧ W.cell? ⟨b, off + j * 5, none⟩ = some (.string y.name)) (first | exact ⟨(Below.refl _ _).drew, q0, q1, q2, q3, q4, d0⟩ | (go_split_ands; exact ⟨bnext (by assumption) hb1 (Nat.le_refl _), cell_on hb1 (by assumption), cell_on hb1 (by assumption), cell_on hb1 (by assumption), cell_on hb1 (by assumption), cell_on hb1 (by assumption), cell_on hb1 (by assumption)⟩)) (first | (go_at_call 91; refine (HVC.out _).mono ?_; rintro e w1 ⟨rfl, hb1⟩))
            rename_i hS
            have HF := Lib.hid (bnext HBq.out hS.1 (Nat.le_refl _))
            clear hS hb1 q0 q1 q2 q3 q4 d0 hw hw2
            go_wp2_with fail
            go_roundw
            case rel => exact ⟨j + 1 + 1, by omega, by go_num, HA.out.step (crange_at hlt) HR.out, HF.out⟩
            case measure => simp [intOf]; omega
    · obtain rfl : k = n := by omega
      have HO := Lib.hid (show okCls l = decide (k ≤ 30) by simp only [okCls, hl.out, HA.out.done (by simp)]; simp)
      go_wp2
      go_ret
      exact ⟨ret_bool (by rw [HO.out]; simp; omega), hbel⟩
end Go.Proofs.YtjmlcobbjpmjpaaGreatDoor
namespace Go.Proofs.YtjmlcobbjpmjpaaGreatDoor
open Go.RowKit

def csum (f : Cl → Int) (l : List Cl) : Nat → Int
  | 0 => 0
  | k + 1 => csum f l k + (match l[k]? with | none => 0 | some x => f x)
theorem csum_step {f : Cl → Int} {l : List Cl} {k : Nat} {x : Cl} (h : l[k]? = some x) : csum f l (k + 1) = csum f l k + f x := by simp [csum, h]
theorem csum_bd {f : Cl → Int} {l : List Cl} (h : ∀ x ∈ l, 0 ≤ f x ∧ f x ≤ 1000) (k : Nat) : 0 ≤ csum f l k ∧ csum f l k ≤ 1000 * (k : Int) := by
  induction k with
  | zero => simp [csum]
  | succ k ih =>
    rcases hx : l[k]? with _ | z
    · simp only [csum, hx]; omega
    · simp only [csum, hx]; have := h z (List.mem_of_getElem? hx); omega
theorem okCls_len {l : List Cl} (h : okCls l = true) : l.length ≤ 30 := by
  simp only [okCls, Bool.and_eq_true, decide_eq_true_eq] at h
  exact h.2
theorem okCls_row {l : List Cl} (h : okCls l = true) {i : Nat} (hi : i < l.length) : rowCl l i = true := by
  simp only [okCls, Bool.and_eq_true, List.all_eq_true] at h
  exact h.1 i (by simpa using hi)
theorem okCls_mem {l : List Cl} (h : okCls l = true) : ∀ x ∈ l, isName x.name = true ∧ (0 ≤ x.station ∧ x.station ≤ 9) ∧ (0 ≤ x.from_ ∧ x.from_ ≤ 20000) ∧ (x.from_ + 1 ≤ x.to_ ∧ x.to_ ≤ 20000) ∧ (0 ≤ x.quota ∧ x.quota ≤ 1000) := by
  intro x hx
  obtain ⟨i, hi, rfl⟩ := List.mem_iff_getElem.1 hx
  have := okCls_row h hi
  simp only [rowCl, List.getElem?_eq_getElem hi, Bool.and_eq_true] at this
  exact okCl_iff.1 this.1
theorem okCls_next {l : List Cl} (h : okCls l = true) {i : Nat} {x y : Cl} (hx : l[i]? = some x) (hy : l[i + 1]? = some y) : sless x.name y.name = true := by
  have hi : i + 1 < l.length := (List.getElem?_eq_some_iff.1 hy).1
  have := okCls_row h hi
  simp only [rowCl, hy, Bool.and_eq_true, Bool.or_eq_true, decide_eq_true_eq, Nat.add_sub_cancel, hx] at this
  rcases this.2 with h0 | h0
  · omega
  · exact h0

def active (x : Cl) (d : Int) : Bool := inR d x.from_ (x.to_ - 1)
theorem active_any (x : Cl) (d : Int) (w : World) :
    Calls Tryz.prog 118 #[.agg #[.string x.name, .int .i64 x.station, .int .i64 x.from_, .int .i64 x.to_, .int .i64 x.quota], .int .i64 d] w fun e w' => e = .returned (.bool (active x d)) ∧ Below w.heap.size w w' := by
  by_cases h1 : x.from_ ≤ d
  · by_cases h2 : d < x.to_
    · have HO := Lib.hid (show active x d = true from inR_true.2 (by omega))
      go_enter Tryz.func118, Tryz.ntmps118
      go_wp2
      go_ret
      exact ⟨ret_bool HO.out.symm, (Below.refl _ _).alloc (Nat.le_refl _) _⟩
    · have HO := Lib.hid (show active x d = false by rcases h : active x d with _ | _; (· rfl); (· have := inR_true.1 h; omega))
      have h2' : decide (d < x.to_) = false := decide_eq_false h2
      go_enter Tryz.func118, Tryz.ntmps118
      go_wp2
      go_ret
      exact ⟨ret_bool HO.out.symm, (Below.refl _ _).alloc (Nat.le_refl _) _⟩
  · have HO := Lib.hid (show active x d = false by rcases h : active x d with _ | _; (· rfl); (· have := inR_true.1 h; omega))
    have h1' : decide (x.from_ ≤ d) = false := decide_eq_false h1
    go_enter Tryz.func118, Tryz.ntmps118
    go_wp2
    go_ret
    exact ⟨ret_bool HO.out.symm, (Below.refl _ _).alloc (Nat.le_refl _) _⟩

def quotaf (st d : Int) (x : Cl) : Int := if (x.station == st && active x d) = true then x.quota else 0
def quotaSum (l : List Cl) (st d : Int) : Int := csum (quotaf st d) l l.length
theorem quotaf_bd {l : List Cl} (h : okCls l = true) (st d : Int) : ∀ x ∈ l, 0 ≤ quotaf st d x ∧ quotaf st d x ≤ 1000 := by
  intro x hx
  have := (okCls_mem h x hx).2.2.2.2
  unfold quotaf
  split <;> omega
theorem quotaSum_bd {l : List Cl} (h : okCls l = true) (st d : Int) : 0 ≤ quotaSum l st d ∧ quotaSum l st d ≤ 30000 := by
  have h1 := csum_bd (quotaf_bd h st d) l.length
  have h2 := okCls_len h
  unfold quotaSum
  omega

end Go.Proofs.YtjmlcobbjpmjpaaGreatDoor
namespace Go.Proofs.YtjmlcobbjpmjpaaGreatDoor
open Go.RowKit

def quotaF (l : List Cl) (st d : Int) : Int × Int := if okCls l = true then (if inR st 0 9 = true then (if inR d 0 20000 = true then (quotaSum l st d, 0) else (0, 2)) else (0, 2)) else (0, 1)
theorem quotaF_bad {l : List Cl} {st d : Int} (h : okCls l = false) : quotaF l st d = (0, 1) := by simp only [quotaF, h, Bool.false_eq_true, if_false]
theorem quotaF_st {l : List Cl} {st d : Int} (h : okCls l = true) (h2 : inR st 0 9 = false) : quotaF l st d = (0, 2) := by simp only [quotaF, h, h2, Bool.false_eq_true, if_false, if_true]
theorem quotaF_day {l : List Cl} {st d : Int} (h : okCls l = true) (h2 : inR st 0 9 = true) (h3 : inR d 0 20000 = false) : quotaF l st d = (0, 2) := by simp only [quotaF, h, h2, h3, Bool.false_eq_true, if_false, if_true]
theorem quotaF_ok {l : List Cl} {st d : Int} (h : okCls l = true) (h2 : inR st 0 9 = true) (h3 : inR d 0 20000 = true) : quotaF l st d = (quotaSum l st d, 0) := by simp only [quotaF, h, h2, h3, if_true]

/-- The first station with the greatest quota. -/
def bestTo (f : Int → Int) : Nat → Int
  | 0 => 0
  | k + 1 => if f (bestTo f k) < f k then (k : Int) else bestTo f k
theorem bestTo_one (f : Int → Int) : bestTo f 1 = 0 := by simp [bestTo]
theorem bestTo_new {f : Int → Int} {k : Nat} (h : f (bestTo f k) < f k) : bestTo f (k + 1) = k := by simp [bestTo, h]
theorem bestTo_old {f : Int → Int} {k : Nat} (h : ¬ f (bestTo f k) < f k) : bestTo f (k + 1) = bestTo f k := by simp [bestTo, h]
theorem bestTo_bd (f : Int → Int) (k : Nat) : 0 ≤ bestTo f k ∧ bestTo f k ≤ k := by
  induction k with
  | zero => simp [bestTo]
  | succ k ih => simp only [bestTo]; split <;> omega
def busyF (l : List Cl) (d : Int) : Int × Int := if okCls l = true then (if inR d 0 20000 = true then (if quotaSum l (bestTo (fun s => quotaSum l s d) 10) d = 0 then (0, 3) else (bestTo (fun s => quotaSum l s d) 10, 0)) else (0, 2)) else (0, 1)
theorem busyF_bad {l : List Cl} {d : Int} (h : okCls l = false) : busyF l d = (0, 1) := by simp only [busyF, h, Bool.false_eq_true, if_false]
theorem busyF_day {l : List Cl} {d : Int} (h : okCls l = true) (h2 : inR d 0 20000 = false) : busyF l d = (0, 2) := by simp only [busyF, h, h2, Bool.false_eq_true, if_false, if_true]
theorem busyF_none {l : List Cl} {d : Int} (h : okCls l = true) (h2 : inR d 0 20000 = true) (h3 : quotaSum l (bestTo (fun s => quotaSum l s d) 10) d = 0) : busyF l d = (0, 3) := by simp only [busyF, h, h2, h3, if_true]
theorem busyF_some {l : List Cl} {d : Int} (h : okCls l = true) (h2 : inR d 0 20000 = true) (h3 : ¬ quotaSum l (bestTo (fun s => quotaSum l s d) 10) d = 0) : busyF l d = (bestTo (fun s => quotaSum l s d) 10, 0) := by simp only [busyF, h, h2, h3, if_true, if_false]
end Go.Proofs.YtjmlcobbjpmjpaaGreatDoor
namespace Go.Proofs.YtjmlcobbjpmjpaaGreatDoor
open Go.RowKit

end Go.Proofs.YtjmlcobbjpmjpaaGreatDoor
namespace Go.Proofs.YtjmlcobbjpmjpaaGreatDoor
open Go.RowKit

/-! ### The order of names -/
theorem bytesLt : ∀ (x y : List UInt8), Op.bytesLess x y = decide (x < y)
  | [], [] => by simp [Op.bytesLess]
  | _ :: _, [] => by simp [Op.bytesLess]
  | [], _ :: _ => by simp [Op.bytesLess]
  | a :: x, b :: y => by
    rw [Op.bytesLess, bytesLt x y]
    simp only [List.cons_lt_cons_iff]
    by_cases h1 : a < b <;> by_cases h2 : a = b <;> by_cases h3 : x < y <;> simp [h1, h2, h3]
theorem sless_trans {a b c : ByteArray} (h : sless a b = true) (k : sless b c = true) : sless a c = true := by
  simp only [sless, bytesLt, decide_eq_true_eq] at *
  exact List.lt_trans h k
theorem sless_ne {a b : ByteArray} (h : sless a b = true) : (a.toList == b.toList) = false := by
  simp only [sless, bytesLt, decide_eq_true_eq] at h
  rw [beq_eq_false_iff_ne]
  intro e
  rw [e] at h
  exact List.lt_irrefl _ h
theorem sless_eq {a b c : ByteArray} (h : sless a b = true) (e : (b.toList == c.toList) = true) : sless a c = true := by
  have e' : b.toList = c.toList := by simpa using e
  simp only [sless] at *
  rw [← e']
  exact h
theorem okCls_up {l : List Cl} (h : okCls l = true) {i : Nat} {x : Cl} (hx : l[i]? = some x) : ∀ (d : Nat) (y : Cl), l[i + 1 + d]? = some y → sless x.name y.name = true := by
  intro d
  induction d with
  | zero => intro y hy; exact okCls_next h hx hy
  | succ d ih =>
    intro y hy
    have hi : i + 1 + d < l.length := by have := (List.getElem?_eq_some_iff.1 hy).1; omega
    exact sless_trans (ih _ (List.getElem?_eq_getElem hi)) (okCls_next h (List.getElem?_eq_getElem hi) hy)
/-- i is where s stands or would stand. -/
def PlaceAt (l : List Cl) (s : ByteArray) (i : Nat) : Prop := i ≤ l.length ∧ ∀ (k : Nat) (x : Cl), l[k]? = some x → (sless x.name s = true ↔ k < i)
def hit (s : ByteArray) (x : Cl) : Bool := x.name.toList == s.toList
def foundAt (l : List Cl) (s : ByteArray) (i : Nat) : Bool := match l[i]? with
  | none => false
  | some x => hit s x
def placeOf (l : List Cl) (s : ByteArray) : Int := idxI (hit s) l
theorem placeAt_found {l : List Cl} {s : ByteArray} {i : Nat} (hp : PlaceAt l s i) (hf : foundAt l s i = true) : placeOf l s = i := by
  unfold foundAt at hf
  rcases hx : l[i]? with _ | x
  · rw [hx] at hf; cases hf
  · rw [hx] at hf
    refine idxI_found hx hf (fun j y hj hy => ?_)
    have := sless_ne ((hp.2 j y hy).2 hj)
    simp [hit, this]
theorem placeAt_lost {l : List Cl} {s : ByteArray} {i : Nat} (hok : okCls l = true) (hp : PlaceAt l s i) (hf : foundAt l s i = false) : placeOf l s = -1 := by
  refine idxI_none (k := l.length) (fun j y hj hy => ?_) rfl
  rcases Nat.lt_trichotomy j i with h | h | h
  · have := sless_ne ((hp.2 j y hy).2 h)
    simp [hit, this]
  · subst h
    simp only [foundAt, hy] at hf
    simp [hf]
  · rcases hh : hit s y with _ | _
    · simp [hh]
    · exfalso
      have hi : i < l.length := by omega
      obtain ⟨d, rfl⟩ : ∃ d, j = i + 1 + d := ⟨j - i - 1, by omega⟩
      have h1 := okCls_up hok (List.getElem?_eq_getElem hi) d y hy
      have h2 := sless_eq h1 hh
      have := (hp.2 i _ (List.getElem?_eq_getElem hi)).1 h2
      omega
theorem placeOf_range {l : List Cl} {s : ByteArray} (h : ¬ placeOf l s < 0) : ∃ i x, placeOf l s = (i : Nat) ∧ l[i]? = some x := by
  unfold placeOf idxI at h ⊢
  rcases hx : l.findIdx? (hit s) with _ | i
  · simp [hx] at h
  · refine ⟨i, l[i]'(by have := (List.findIdx?_eq_some_iff_getElem.1 hx).1; omega), by simp, List.getElem?_eq_getElem _⟩

theorem l24Find_any (A : Option Addr) (n c : Nat) (l : List Cl) (s : ByteArray) (B : Nat) (w : World) (h : Reads w B 5 A n (cls l)) (hn : n ≤ 1048576) :
    Calls Tryz.prog 97 #[.slice A n c, .string s] w fun e w' => e = .returned (.int .i64 (placeOf l s)) ∧ w = w' := by
  have hl := Lib.hid (cls_len h)
  go_enter Tryz.func97, Tryz.ntmps97
  go_wp2
  go_loop [5] (fun i => ∃ k : Nat, k ≤ n ∧ i = .int .i64 k ∧ AllTo (fun x => !hit s x) l k) (fun i => n - (intOf i).toNat)
  case atStart => exact ⟨0, Nat.zero_le _, rfl, AllTo.zero _ _⟩
  case round =>
    obtain ⟨k, hk, rfl, hall⟩ := hrel
    have HA := Lib.hid hall
    clear hall
    by_cases hlt : k < n
    · obtain ⟨x, b, off, he, rfl, hb, c0, c1, c2, c3, c4⟩ := cl_at h hlt
      have HE := Lib.hid he
      clear he h
      rcases hh : (x.name.toList == s.toList) with _ | _
      · go_wp2
        go_round
        case rel => exact ⟨k + 1, by omega, by go_num, HA.out.step HE.out (by simp [hit, hh])⟩
        case measure => simp [intOf]; omega
      · have HO := Lib.hid (show placeOf l s = k from idxI_found HE.out hh HA.out)
        go_wp2
        go_ret
        exact ⟨ret_int HO.out.symm, rfl⟩
    · obtain rfl : k = n := by omega
      have HO := Lib.hid (show placeOf l s = -1 from idxI_none HA.out hl.out)
      go_wp2
      go_ret
      exact ⟨ret_int HO.out.symm, rfl⟩

def cmpS (a b : ByteArray) : Int := if Op.bytesLess a.toList b.toList = true then -1 else if (a.toList == b.toList) = true then 0 else 1
theorem isNaN_any (a : ByteArray) (w : World) : Calls Tryz.prog 183 #[.string a] w fun e w' => e = .returned (.bool false) ∧ w = w' := by
  have h : (a.toList == a.toList) = true := by simp
  go_enter Tryz.func183, Tryz.ntmps183
  go_wp2
  go_ret
  exact ⟨by simp, rfl⟩
theorem cmpCompare_any (a b : ByteArray) (w : World) : Calls Tryz.prog 150 #[.string a, .string b] w fun e w' => e = .returned (.int .i64 (cmpS a b)) ∧ w = w' := by
  rcases h1 : Op.bytesLess a.toList b.toList with _ | _
  · rcases h2 : (a.toList == b.toList) with _ | _
    · have HO := Lib.hid (show cmpS a b = 1 by simp [cmpS, h1, h2])
      go_enter Tryz.func150, Tryz.ntmps150
      go_wp2_with (go_at_call 183; refine (isNaN_any _ _).mono ?_; rintro e w2 ⟨rfl, rfl⟩)
      go_ret
      exact ⟨ret_int HO.out.symm, rfl⟩
    · have HO := Lib.hid (show cmpS a b = 0 by simp [cmpS, h1, h2])
      go_enter Tryz.func150, Tryz.ntmps150
      go_wp2_with (go_at_call 183; refine (isNaN_any _ _).mono ?_; rintro e w2 ⟨rfl, rfl⟩)
      go_ret
      exact ⟨ret_int HO.out.symm, rfl⟩
  · have HO := Lib.hid (show cmpS a b = -1 by simp [cmpS, h1])
    go_enter Tryz.func150, Tryz.ntmps150
    go_wp2_with (go_at_call 183; refine (isNaN_any _ _).mono ?_; rintro e w2 ⟨rfl, rfl⟩)
    go_ret
    exact ⟨ret_int HO.out.symm, rfl⟩
theorem place1_any (x : Cl) (s : ByteArray) (w : World) : Calls Tryz.prog 149 #[.agg #[.string x.name, .int .i64 x.station, .int .i64 x.from_, .int .i64 x.to_, .int .i64 x.quota], .string s] w fun e w' => e = .returned (.int .i64 (cmpS x.name s)) ∧ Below w.heap.size w w' := by
  go_enter Tryz.func149, Tryz.ntmps149
  go_wp2_with (go_at_call 150; refine (cmpCompare_any _ _ _).mono ?_; rintro e w2 ⟨rfl, rfl⟩)
  go_ret
  exact ⟨rfl, (Below.refl _ _).alloc (Nat.le_refl _) _⟩
theorem cmpS_lt {a b : ByteArray} : cmpS a b < 0 ↔ sless a b = true := by
  unfold cmpS sless
  split
  · rename_i h; simp [h]
  · rename_i h; split <;> simp [h]
theorem cmpS_zero {a b : ByteArray} (h : ¬ cmpS a b < 0) : (cmpS a b == 0) = (a.toList == b.toList) := by
  rw [cmpS_lt] at h
  unfold sless at h
  unfold cmpS
  rw [if_neg h]
  rcases (a.toList == b.toList) with _ | _ <;> simp
end Go.Proofs.YtjmlcobbjpmjpaaGreatDoor
namespace Go.Proofs.YtjmlcobbjpmjpaaGreatDoor
open Go.RowKit

set_option maxHeartbeats 2000000 in
theorem binSearch_any (A : Option Addr) (n c : Nat) (l : List Cl) (s : ByteArray) (B : Nat) (w : World) (h : Reads w B 5 A n (cls l)) (hB : B ≤ w.heap.size) (hn : n ≤ 1048576) (hok : okCls l = true) :
    Calls Tryz.prog 148 #[.slice A n c, .string s, .func (.func 149) #[] #[]] w fun e w' => ∃ i : Nat, PlaceAt l s i ∧ e = .returned (.tuple #[.int .i64 i, .bool (foundAt l s i)]) ∧ Below w.heap.size w w' := by
  have hl := Lib.hid (cls_len h)
  have HK := Lib.hid hok
  clear hok
  go_enter Tryz.func148, Tryz.ntmps148
  go_wp2
  go_loopw [9, 10] (fun p q wr => ∃ i j : Nat, i ≤ j ∧ j ≤ n ∧ p = .int .i64 i ∧ q = .int .i64 j ∧ (∀ (k : Nat) (x : Cl), l[k]? = some x → k < i → sless x.name s = true) ∧ (∀ (k : Nat) (x : Cl), l[k]? = some x → j ≤ k → ¬ sless x.name s = true) ∧ Below w.heap.size w wr) (fun p q _ => (intOf q - intOf p).toNat)
  case atStart => exact ⟨0, n, Nat.zero_le _, Nat.le_refl _, rfl, rfl, fun k x _ hk => by omega, fun k x hx hk => by have := (List.getElem?_eq_some_iff.1 hx).1; have := hl.out; omega, Below.refl _ _⟩
  case round =>
    obtain ⟨i, j, hij, hj, rfl, rfl, hlo, hhi, hbel⟩ := hrel
    have HLo := Lib.hid hlo
    have HHi := Lib.hid hhi
    have HBe := Lib.hid hbel
    clear hlo hhi
    by_cases hlt : i < j
    · have hm1 : (i + j) / 2 < n := by omega
      obtain ⟨m, hm⟩ : ∃ m, (i + j) / 2 = m := ⟨_, rfl⟩
      obtain ⟨x, b, off, he, rfl, hb, c0, c1, c2, c3, c4⟩ := cl_at (k := m) (h.on hB hbel) (by omega)
      have HE := Lib.hid he
      clear he h hbel
      have h1 : ∀ (k : Nat) (z : Cl), sless x.name s = true → l[k]? = some z → k < m + 1 → sless z.name s = true := fun k z hx hz hk => by
        rcases Nat.lt_or_ge k m with h | h
        · have hi : k < l.length := (List.getElem?_eq_some_iff.1 hz).1
          obtain ⟨d, rfl⟩ : ∃ d, m = k + 1 + d := ⟨m - k - 1, by omega⟩
          exact sless_trans (okCls_up HK.out hz d x HE.out) hx
        · obtain rfl : k = m := by omega
          rw [HE.out] at hz; injection hz with hz; subst hz; exact hx
      have h2 : ∀ (k : Nat) (z : Cl), ¬ sless x.name s = true → l[k]? = some z → m ≤ k → ¬ sless z.name s = true := fun k z hx hz hk hs => by
        rcases Nat.lt_or_ge m k with h | h
        · obtain ⟨d, rfl⟩ : ∃ d, k = m + 1 + d := ⟨k - m - 1, by omega⟩
          exact hx (sless_trans (okCls_up HK.out HE.out d z hz) hs)
        · obtain rfl : k = m := by omega
          rw [HE.out] at hz; injection hz with hz; subst hz; exact hx hs
      have H1 := Lib.hid h1
      have H2 := Lib.hid h2
      clear h1 h2 HE
      go_wp2_with fail
      refine (place1_any x s _).mono ?_
      rintro e w1 ⟨rfl, b1⟩
      have HF := Lib.hid (bnext HBe.out b1 (Nat.le_refl _))
      clear b1 c0 c1 c2 c3 c4
      by_cases hc : cmpS x.name s < 0
      · have hsl := Lib.hid (cmpS_lt.1 hc)
        go_wp2
        go_roundw
        case rel => exact ⟨m + 1, j, by omega, by omega, by congr 1; omega, rfl, fun k z hz hk => H1.out k z hsl.out hz hk, HHi.out, HF.out⟩
        case measure => simp [intOf]; omega
      · have hsl := Lib.hid (fun hh => hc (cmpS_lt.2 hh))
        have hc1 : decide (cmpS x.name s < 0) = false := decide_eq_false hc
        go_wp2
        go_roundw
        case rel => exact ⟨i, m, by omega, by omega, rfl, by congr 1; omega, HLo.out, fun k z hz hk => H2.out k z hsl.out hz hk, HF.out⟩
        case measure => simp [intOf]; omega
    · obtain rfl : i = j := by omega
      have HP := Lib.hid (show PlaceAt l s i from ⟨by have := hl.out; omega, fun k x hx => ⟨fun hs => by
        rcases Nat.lt_or_ge k i with h | h
        · exact h
        · exact absurd hs (HHi.out k x hx h), fun hk => HLo.out k x hx hk⟩⟩)
      by_cases hin : i < n
      · obtain ⟨x, b, off, he, rfl, hb, c0, c1, c2, c3, c4⟩ := cl_at (k := i) (h.on hB hbel) hin
        have HN := Lib.hid (show ¬ cmpS x.name s < 0 from fun hc => HHi.out i x he (Nat.le_refl _) (cmpS_lt.1 hc))
        have HG := Lib.hid (show foundAt l s i = (cmpS x.name s == 0) by rw [cmpS_zero HN.out]; simp [foundAt, he, hit])
        clear he h hbel
        go_wp2_with fail
        refine (place1_any x s _).mono ?_
        rintro e w1 ⟨rfl, b1⟩
        have HF := Lib.hid (bnext HBe.out b1 (Nat.le_refl _))
        clear b1 c0 c1 c2 c3 c4
        go_wp2
        go_ret2
        exact ⟨i, HP.out, by rw [HG.out]; rfl, HF.out⟩
      · obtain rfl : i = n := by omega
        have HG := Lib.hid (show foundAt l s i = false by
          have : l[i]? = none := List.getElem?_eq_none (by have := hl.out; omega)
          simp [foundAt, this])
        go_wp2
        go_ret2
        exact ⟨i, HP.out, by rw [HG.out]; rfl, HBe.out⟩
end Go.Proofs.YtjmlcobbjpmjpaaGreatDoor
namespace Go.Proofs.YtjmlcobbjpmjpaaGreatDoor
open Go.RowKit

theorem clientPlace_any (A : Option Addr) (n c : Nat) (l : List Cl) (s : ByteArray) (B : Nat) (w : World) (h : Reads w B 5 A n (cls l)) (hB : B ≤ w.heap.size) (hn : n ≤ 1048576) (hok : okCls l = true) :
    Calls Tryz.prog 92 #[.slice A n c, .string s] w fun e w' => ∃ i : Nat, PlaceAt l s i ∧ e = .returned (.tuple #[.int .i64 i, .bool (foundAt l s i)]) ∧ Below w.heap.size w w' := by
  go_enter Tryz.func92, Tryz.ntmps92
  go_wp2_with fail
  refine (binSearch_any A n c l s B _ h hB hn hok).mono ?_
  rintro e w1 ⟨i, hp, rfl, b1⟩
  go_wp2
  go_ret2
  exact ⟨i, hp, rfl, b1⟩

/-- Where a name stands, and the code of that: 1 the list, 2 what else is asked, 3 no such name. -/
def namedF (l : List Cl) (s : ByteArray) (b : Bool) : Int × Int := if okCls l = true then (if b = true then (if placeOf l s < 0 then (0, 3) else (placeOf l s, 0)) else (0, 2)) else (0, 1)
theorem namedF_bad {l : List Cl} {s : ByteArray} {b : Bool} (h : okCls l = false) : namedF l s b = (0, 1) := by simp only [namedF, h, Bool.false_eq_true, if_false]
theorem namedF_else {l : List Cl} {s : ByteArray} (h : okCls l = true) : namedF l s false = (0, 2) := by simp only [namedF, h, Bool.false_eq_true, if_false, if_true]
theorem namedF_none {l : List Cl} {s : ByteArray} (h : okCls l = true) (h2 : placeOf l s < 0) : namedF l s true = (0, 3) := by simp only [namedF, h, h2, if_true]
theorem namedF_some {l : List Cl} {s : ByteArray} (h : okCls l = true) (h2 : ¬ placeOf l s < 0) : namedF l s true = (placeOf l s, 0) := by simp only [namedF, h, h2, if_true, if_false]

theorem l24Named_any (A : Option Addr) (n c : Nat) (l : List Cl) (s : ByteArray) (B : Nat) (w : World) (h : Reads w B 5 A n (cls l)) (hB : B ≤ w.heap.size) (hn : n ≤ 1048576) (hsm : ∀ x ∈ l, x.small) (hgd : ∀ x ∈ l, x.good) :
    Calls Tryz.prog 103 #[.slice A n c, .string s] w fun e w' => e = .returned (.tuple #[.int .i64 (namedF l s true).1, .int .i64 (namedF l s true).2]) ∧ Below w.heap.size w w' := by
  rcases h1 : okCls l with _ | _
  · have HO := Lib.hid (namedF_bad (s := s) (b := true) h1)
    go_enter Tryz.func103, Tryz.ntmps103
    go_wp2_with fail
    refine (l24Ok_any A n c l B _ h hB hn hsm hgd).mono ?_
    rintro e w1 ⟨rfl, b1⟩
    go_wp2
    go_ret2
    rw [HO.out]
    exact ⟨rfl, b1⟩
  · have HN := Lib.hid (namedF_none (s := s) h1)
    have HS := Lib.hid (namedF_some (s := s) h1)
    go_enter Tryz.func103, Tryz.ntmps103
    go_wp2_with fail
    refine (l24Ok_any A n c l B _ h hB hn hsm hgd).mono ?_
    rintro e w1 ⟨rfl, b1⟩
    go_wp2_with fail
    refine (l24Find_any A n c l s B _ (h.on hB b1) hn).mono ?_
    rintro e w2 ⟨rfl, rfl⟩
    by_cases hp : placeOf l s < 0
    · go_wp2
      go_ret2
      rw [HN.out hp]
      exact ⟨rfl, b1⟩
    · have hp1 : decide (placeOf l s < 0) = false := decide_eq_false hp
      go_wp2
      go_ret2
      rw [HS.out hp]
      exact ⟨rfl, b1⟩

theorem clientCode_any (A : Option Addr) (n c : Nat) (l : List Cl) (s : ByteArray) (q : Bool) (B : Nat) (w : World) (h : Reads w B 5 A n (cls l)) (hB : B ≤ w.heap.size) (hn : n ≤ 1048576) (hsm : ∀ x ∈ l, x.small) (hgd : ∀ x ∈ l, x.good) :
    Calls Tryz.prog 100 #[.slice A n c, .string s, .bool q] w fun e w' => e = .returned (.tuple #[.int .i64 (namedF l s q).1, .int .i64 (namedF l s q).2]) ∧ Below w.heap.size w w' := by
  rcases h1 : okCls l with _ | _
  · have HO := Lib.hid (namedF_bad (s := s) (b := q) h1)
    go_enter Tryz.func100, Tryz.ntmps100
    go_wp2_with fail
    refine (implValidClients_any A n c l B _ h hB hn hsm hgd).mono ?_
    rintro e w1 ⟨rfl, b1⟩
    go_wp2
    go_ret2
    rw [HO.out]
    exact ⟨rfl, b1⟩
  · rcases q with _ | _
    · have HO := Lib.hid (namedF_else (s := s) h1)
      go_enter Tryz.func100, Tryz.ntmps100
      go_wp2_with fail
      refine (implValidClients_any A n c l B _ h hB hn hsm hgd).mono ?_
      rintro e w1 ⟨rfl, b1⟩
      go_wp2
      go_ret2
      rw [HO.out]
      exact ⟨rfl, b1⟩
    · have HN := Lib.hid (namedF_none (s := s) h1)
      have HS := Lib.hid (namedF_some (s := s) h1)
      go_enter Tryz.func100, Tryz.ntmps100
      go_wp2_with fail
      refine (implValidClients_any A n c l B _ h hB hn hsm hgd).mono ?_
      rintro e w1 ⟨rfl, b1⟩
      have z1 := b1.size
      go_wp2_with fail
      refine (clientPlace_any A n c l s B _ (h.on hB b1) (by omega) hn h1).mono ?_
      rintro e w2 ⟨i, hp, rfl, b2⟩
      have HF := Lib.hid (bnext b1 b2 (Nat.le_refl _))
      rcases hf : foundAt l s i with _ | _
      · have hq := placeAt_lost h1 hp hf
        have HR := Lib.hid (HN.out (by omega))
        clear hq hp b1 b2
        go_wp2
        go_ret2
        rw [HR.out]
        exact ⟨rfl, HF.out⟩
      · have hq := placeAt_found hp hf
        have HR := Lib.hid (HS.out (by omega))
        have HQ := Lib.hid hq
        clear hq hp b1 b2
        go_wp2
        go_ret2
        rw [HR.out, HQ.out]
        exact ⟨rfl, HF.out⟩

def clientF (l : List Cl) (s : ByteArray) : Cl × Int := if (namedF l s true).2 = 0 then ((l[(namedF l s true).1.toNat]?).getD ⟨⟨#[]⟩, 0, 0, 0, 0⟩, 0) else (⟨⟨#[]⟩, 0, 0, 0, 0⟩, (namedF l s true).2)
theorem clientF_bad {l : List Cl} {s : ByteArray} (h : (namedF l s true).2 ≠ 0) : clientF l s = (⟨⟨#[]⟩, 0, 0, 0, 0⟩, (namedF l s true).2) := by simp only [clientF, h, if_false]
theorem clientF_ok {l : List Cl} {s : ByteArray} {i : Nat} {x : Cl} (h : namedF l s true = ((i : Int), 0)) (hx : l[i]? = some x) : clientF l s = (x, 0) := by simp [clientF, h, hx]
theorem named_cases {l : List Cl} {s : ByteArray} (h : (namedF l s true).2 = 0) : okCls l = true ∧ ∃ (i : Nat) (x : Cl), namedF l s true = ((i : Int), 0) ∧ l[i]? = some x := by
  rcases h1 : okCls l with _ | _
  · rw [namedF_bad h1] at h; cases h
  · by_cases h2 : placeOf l s < 0
    · rw [namedF_none h1 h2] at h; cases h
    · obtain ⟨i, x, hi, hx⟩ := placeOf_range h2
      exact ⟨rfl, i, x, by rw [namedF_some h1 h2, hi], hx⟩
end Go.Proofs.YtjmlcobbjpmjpaaGreatDoor
namespace Go.Proofs.YtjmlcobbjpmjpaaGreatDoor
open Go.RowKit

def pos0 (x : Int) : Int := if 0 < x then x else 0
theorem pos0_bd {x : Int} (h : x ≤ 80000000000) : 0 ≤ pos0 x ∧ pos0 x ≤ 80000000000 := by unfold pos0; split <;> omega
end Go.Proofs.YtjmlcobbjpmjpaaGreatDoor
namespace Go.Proofs.YtjmlcobbjpmjpaaGreatDoor
open Go.RowKit

def leftF (l : List Cl) (s : ByteArray) (d u : Int) : Int × Int :=
  if (namedF l s (inR d 0 20000 && inR u 0 100000)).2 = 0 then (match l[(namedF l s (inR d 0 20000 && inR u 0 100000)).1.toNat]? with
    | none => (0, 0)
    | some x => if active x d = true then (pos0 (x.quota - u), 0) else (0, 6)) else (0, (namedF l s (inR d 0 20000 && inR u 0 100000)).2)
theorem leftF_bad {l : List Cl} {s : ByteArray} {d u : Int} {q : Bool} (hq : (inR d 0 20000 && inR u 0 100000) = q) (h : (namedF l s q).2 ≠ 0) : leftF l s d u = (0, (namedF l s q).2) := by subst hq; simp only [leftF, h, if_false]
theorem leftF_off {l : List Cl} {s : ByteArray} {d u : Int} {i : Nat} {x : Cl} (hq : (inR d 0 20000 && inR u 0 100000) = true) (h : namedF l s true = ((i : Int), 0)) (hx : l[i]? = some x) (ha : active x d = false) : leftF l s d u = (0, 6) := by simp [leftF, hq, h, hx, ha]
theorem leftF_ok {l : List Cl} {s : ByteArray} {d u : Int} {i : Nat} {x : Cl} (hq : (inR d 0 20000 && inR u 0 100000) = true) (h : namedF l s true = ((i : Int), 0)) (hx : l[i]? = some x) (ha : active x d = true) : leftF l s d u = (pos0 (x.quota - u), 0) := by simp [leftF, hq, h, hx, ha]

end Go.Proofs.YtjmlcobbjpmjpaaGreatDoor
namespace Go.Proofs.YtjmlcobbjpmjpaaGreatDoor
open Go.RowKit

theorem info_str : (Tryz.prog.info? 9).map (fun i => (i.zero, i.size, i.bytes)) = some (some (.string ⟨#[]⟩), 1, 16) := by kernel_rfl
theorem strs_snoc (xs : List ByteArray) (y : ByteArray) : strs (xs ++ [y]) = strs xs ++ [.string y] := by simp [strs]
def namesTo (p : Cl → Bool) (l : List Cl) (k : Nat) : List ByteArray := ((l.take k).filter p).map (·.name)
theorem take_succ_at {l : List Cl} {k : Nat} {x : Cl} (h : l[k]? = some x) : l.take (k + 1) = l.take k ++ [x] := by
  rw [List.take_add_one, h]; rfl
theorem namesTo_yes {p : Cl → Bool} {l : List Cl} {k : Nat} {x : Cl} (h : l[k]? = some x) (hp : p x = true) : namesTo p l (k + 1) = namesTo p l k ++ [x.name] := by
  simp [namesTo, take_succ_at h, List.filter_append, hp]
theorem namesTo_no {p : Cl → Bool} {l : List Cl} {k : Nat} {x : Cl} (h : l[k]? = some x) (hp : p x = false) : namesTo p l (k + 1) = namesTo p l k := by
  simp [namesTo, take_succ_at h, List.filter_append, hp]
theorem namesTo_len (p : Cl → Bool) (l : List Cl) (k : Nat) : (namesTo p l k).length ≤ k := by
  simp only [namesTo, List.length_map]
  refine Nat.le_trans (List.length_filter_le _ _) ?_
  rw [List.length_take]
  omega

theorem active1_any (x : Cl) (a : Int) (g1 : Nat) (w : World) (k1 : w.cell? ⟨g1, 0, none⟩ = some (.int .i64 a)) :
    Calls Tryz.prog 117 #[.agg #[.string x.name, .int .i64 x.station, .int .i64 x.from_, .int .i64 x.to_, .int .i64 x.quota], .pointer (some ⟨g1, 0, none⟩)] w fun e w' => e = .returned (.bool (active x a)) ∧ Below w.heap.size w w' := by
  have b0 : Below w.heap.size w (w.alloc (.cells #[.string x.name, .int .i64 x.station, .int .i64 x.from_, .int .i64 x.to_, .int .i64 x.quota] 48)) := (Below.refl _ _).alloc (Nat.le_refl _) _
  have k1' := cell_on b0 k1
  go_enter Tryz.func117, Tryz.ntmps117
  go_wp2_with fail
  refine (active_any x a _).mono ?_
  rintro e w2 ⟨rfl, b2⟩
  go_wp2
  go_ret
  exact ⟨rfl, bnext b0 b2 (Nat.le_refl _)⟩

set_option maxHeartbeats 2000000 in
theorem namesActive_any (A : Option Addr) (n c : Nat) (l : List Cl) (a : Int) (g1 : Nat) (B : Nat) (w : World) (h : Reads w B 5 A n (cls l)) (hB : B ≤ w.heap.size) (hn : n ≤ 1000) (k1 : w.cell? ⟨g1, 0, none⟩ = some (.int .i64 a)) :
    Calls Tryz.prog 116 #[.slice A n c, .func (.func 117) #[] #[.pointer (some ⟨g1, 0, none⟩)]] w fun e w' => ∃ A' m d, e = .returned (.slice A' m d) ∧ Sl w' w.heap.size w'.heap.size 9 1 A' m d (strs (namesTo (fun y => active y a) l n)) ∧ Below w.heap.size w w' := by
  go_enter Tryz.func116, Tryz.ntmps116
  go_wp2
  have acc0 := Acc.made w 9 1
  go_loopw [5, 11] (fun o i wr => ∃ (k : Nat) (A' : Option Addr) (m d : Nat), k ≤ n ∧ i = .int .i64 k ∧ o = .slice A' m d ∧ Acc w.heap.size w.heap.size 9 1 w wr A' m d (strs (namesTo (fun y => active y a) l k))) (fun _ i _ => n - (intOf i).toNat)
  case atStart => exact ⟨0, _, _, _, Nat.zero_le _, rfl, rfl, acc0⟩
  case round =>
    obtain ⟨k, A', m, d, hk, rfl, rfl, hacc⟩ := hrel
    have HA := Lib.hid hacc
    have hml : m ≤ 1000 := by have h1 := HA.out.len; rw [strs_length] at h1; have h2 := namesTo_len (fun y => active y a) l k; omega
    clear acc0 hacc
    by_cases hlt : k < n
    · have hbw := HA.out.below (Nat.le_refl _) (Nat.le_refl _)
      obtain ⟨x, b, off, he, rfl, hb, c0, c1, c2, c3, c4⟩ := cl_at (h.on hB hbw) hlt
      have HE := Lib.hid he
      have hi0 : (0 : Int) ≤ k := by omega
      have hi1 : (k : Int) < n := by omega
      have hzz := hbw.size
      clear he h
      go_wp2_with fail
      obtain ⟨wq, hwq⟩ : ∃ y, wr.alloc (.cells #[.string x.name, .int .i64 x.station, .int .i64 x.from_, .int .i64 x.to_, .int .i64 x.quota] 48) = y := ⟨_, rfl⟩
      have bx : Blk wq wr.heap.size 48 #[.string x.name, .int .i64 x.station, .int .i64 x.from_, .int .i64 x.to_, .int .i64 x.quota] := by rw [← hwq]; exact Blk.new _ _ _
      have bq : Below wr.heap.size wr wq := by rw [← hwq]; exact (Below.refl _ _).alloc (Nat.le_refl _) _
      rw [hwq]
      clear hwq c0 c1 c2 c3 c4
      refine (active1_any x a g1 _ (cell_on bq (cell_on hbw k1))).mono ?_
      rintro e w2 ⟨rfl, b2⟩
      have q0 := (bx.on b2).cellAt 0 (by simp)
      have HA1 := Lib.hid ((HA.out.on bq (Nat.le_refl _)).on b2 (Nat.le_refl _))
      have hz2 : w.heap.size ≤ w2.heap.size := Nat.le_trans hzz (Nat.le_trans bq.size b2.size)
      clear bx bq b2 hbw
      rcases hp : (fun y => active y a) x with _ | _
      · have HQ := Lib.hid (namesTo_no (p := (fun y => active y a)) HE.out hp)
        first | rw [hp] | skip
        go_wp2
        go_roundw
        case rel => exact ⟨k + 1, _, _, _, by omega, by go_num, rfl, by rw [HQ.out]; exact HA1.out⟩
        case measure => simp [intOf]; omega
      · have HQ := Lib.hid (namesTo_yes (p := (fun y => active y a)) HE.out hp)
        first | rw [hp] | skip
        go_wp2_with (at_builtin; refine wpList_acc rfl _ _ 36 rfl 9 _ 1 16 Tryz.underlying36 info_str rfl (by decide) (by decide) HA1.out (Nat.le_refl _) rfl [.string x.name] rfl rfl (fun u hu => by simp at hu; subst hu; rfl) (by omega) ?_; intro A2 d2 w9 hacc2; have HA2 := Lib.hid hacc2; clear hacc2)
        go_roundw
        case rel => exact ⟨k + 1, _, _, _, by omega, by go_num, rfl, by rw [HQ.out, strs_snoc]; exact HA2.out⟩
        case measure => simp [intOf]; omega
    · obtain rfl : k = n := by omega
      go_wp2
      go_ret
      exact ⟨_, _, _, rfl, HA.out.sl (Nat.le_refl _) (Nat.le_refl _), HA.out.below (Nat.le_refl _) (Nat.le_refl _)⟩
end Go.Proofs.YtjmlcobbjpmjpaaGreatDoor
namespace Go.Proofs.YtjmlcobbjpmjpaaGreatDoor
open Go.RowKit

def endsBetweenF (l : List Cl) (a bb : Int) : List ByteArray × Int := if okCls l = true then (if (inR a 0 20000 && inR bb a 20000) = true then (namesTo (fun y => inR y.to_ a bb) l l.length, 0) else ([], 2)) else ([], 1)
theorem endsBetweenF_bad {l : List Cl} {a bb : Int} (h : okCls l = false) : endsBetweenF l a bb = ([], 1) := by simp only [endsBetweenF, h, Bool.false_eq_true, if_false]
theorem endsBetweenF_day {l : List Cl} {a bb : Int} (h : okCls l = true) (h2 : (inR a 0 20000 && inR bb a 20000) = false) : endsBetweenF l a bb = ([], 2) := by simp only [endsBetweenF, h, h2, Bool.false_eq_true, if_false, if_true]
theorem endsBetweenF_ok {l : List Cl} {a bb : Int} (h : okCls l = true) (h2 : (inR a 0 20000 && inR bb a 20000) = true) : endsBetweenF l a bb = (namesTo (fun y => inR y.to_ a bb) l l.length, 0) := by simp only [endsBetweenF, h, h2, if_true]
theorem cntEndsBetween_len {l : List Cl} {a bb : Int} {m : Nat} (h : (strs (endsBetweenF l a bb).1).length = m * 1) : m ≤ 1048576 := by
  rw [strs_length] at h
  rcases h1 : okCls l with _ | _
  · rw [endsBetweenF_bad h1] at h; simp at h; omega
  · rcases h2 : (inR a 0 20000 && inR bb a 20000) with _ | _
    · rw [endsBetweenF_day h1 h2] at h; simp at h; omega
    · rw [endsBetweenF_ok h1 h2] at h
      have h3 := namesTo_len (fun y => inR y.to_ a bb) l l.length
      have h4 := okCls_len h1
      simp only at h
      omega

end Go.Proofs.YtjmlcobbjpmjpaaGreatDoor
namespace Go.Proofs.YtjmlcobbjpmjpaaGreatDoor
open Go.RowKit

def activeOnF (l : List Cl) (dd : Int) : List ByteArray × Int := if okCls l = true then (if (inR dd 0 20000) = true then (namesTo (fun y => active y dd) l l.length, 0) else ([], 2)) else ([], 1)
theorem activeOnF_bad {l : List Cl} {dd : Int} (h : okCls l = false) : activeOnF l dd = ([], 1) := by simp only [activeOnF, h, Bool.false_eq_true, if_false]
theorem activeOnF_day {l : List Cl} {dd : Int} (h : okCls l = true) (h2 : (inR dd 0 20000) = false) : activeOnF l dd = ([], 2) := by simp only [activeOnF, h, h2, Bool.false_eq_true, if_false, if_true]
theorem activeOnF_ok {l : List Cl} {dd : Int} (h : okCls l = true) (h2 : (inR dd 0 20000) = true) : activeOnF l dd = (namesTo (fun y => active y dd) l l.length, 0) := by simp only [activeOnF, h, h2, if_true]
theorem cntActiveOn_len {l : List Cl} {dd : Int} {m : Nat} (h : (strs (activeOnF l dd).1).length = m * 1) : m ≤ 1048576 := by
  rw [strs_length] at h
  rcases h1 : okCls l with _ | _
  · rw [activeOnF_bad h1] at h; simp at h; omega
  · rcases h2 : (inR dd 0 20000) with _ | _
    · rw [activeOnF_day h1 h2] at h; simp at h; omega
    · rw [activeOnF_ok h1 h2] at h
      have h3 := namesTo_len (fun y => active y dd) l l.length
      have h4 := okCls_len h1
      simp only at h
      omega

set_option maxHeartbeats 2000000 in
theorem implActiveOn_any (A : Option Addr) (n c : Nat) (l : List Cl) (dd : Int) (B : Nat) (w : World) (h : Reads w B 5 A n (cls l)) (hB : B ≤ w.heap.size) (hn : n ≤ 1048576) (hsm : ∀ x ∈ l, x.small) (hgd : ∀ x ∈ l, x.good) (hd : I64 dd) :
    Calls Tryz.prog 48 #[.slice A n c, .int .i64 dd] w fun e w' => ∃ A' m d, e = .returned (.tuple #[.slice A' m d, .int .i64 (activeOnF l dd).2]) ∧ Sl w' w.heap.size w'.heap.size 9 1 A' m d (strs (activeOnF l dd).1) ∧ Below w.heap.size w w' := by
  have e1 : Below (w).heap.size (w) ((w).alloc (.cells #[.int .i64 dd] 2)) := (Below.refl _ _).alloc (Nat.le_refl _) _
  have k1 : ((w).alloc (.cells #[.int .i64 dd] 2)).cell? ⟨w.heap.size, 0, none⟩ = some (.int .i64 dd) := (Blk.new _ _ _).cellAt 0 (by simp)
  have HB0 := Lib.hid (show Below w.heap.size w ((w).alloc (.cells #[.int .i64 dd] 2)) from e1)
  have h0 : Reads ((w).alloc (.cells #[.int .i64 dd] 2)) B 5 A n (cls l) := h.on hB HB0.out
  have hB0 : B ≤ ((w).alloc (.cells #[.int .i64 dd] 2)).heap.size := Nat.le_trans hB HB0.out.size
  rcases h1 : okCls l with _ | _
  · have HO := Lib.hid (activeOnF_bad (dd := dd) h1)
    go_enter Tryz.func48, Tryz.ntmps48
    go_wp2_with (first | (go_at_call 46; refine (implValidClients_any A n c l B _ h0 hB0 hn hsm hgd).mono ?_; rintro e w1 ⟨rfl, b1⟩; have k1q := cell_on b1 k1) | (go_at_call 115; refine (isContractDay_any _ _).mono ?_; rintro e w2 ⟨rfl, rfl⟩) | (go_at_call 101; refine (within_any _ _ _ _).mono ?_; rintro e w2 ⟨rfl, rfl⟩))
    go_ret2
    rw [HO.out]
    exact ⟨_, _, _, rfl, Sl.nil _ _ _ _ _, bnext HB0.out b1 (Nat.le_refl _)⟩
  · rcases h2 : inR dd 0 20000 with _ | _
    · have HO := Lib.hid (activeOnF_day (l := l) (dd := dd) h1 (by simp [h2]))
      go_enter Tryz.func48, Tryz.ntmps48
      go_wp2_with (first | (go_at_call 46; refine (implValidClients_any A n c l B _ h0 hB0 hn hsm hgd).mono ?_; rintro e w1 ⟨rfl, b1⟩; have k1q := cell_on b1 k1) | (go_at_call 115; refine (isContractDay_any _ _).mono ?_; rintro e w2 ⟨rfl, rfl⟩) | (go_at_call 101; refine (within_any _ _ _ _).mono ?_; rintro e w2 ⟨rfl, rfl⟩))
      go_ret2
      rw [HO.out]
      exact ⟨_, _, _, rfl, Sl.nil _ _ _ _ _, bnext HB0.out b1 (Nat.le_refl _)⟩
    · have HO := Lib.hid (activeOnF_ok (l := l) (dd := dd) h1 (by simp [h2]))
      have hl := Lib.hid (cls_len h)
      have hn30 : n ≤ 30 := by have := okCls_len h1; have := hl.out; omega
      go_enter Tryz.func48, Tryz.ntmps48
      go_wp2_with (first | (go_at_call 46; refine (implValidClients_any A n c l B _ h0 hB0 hn hsm hgd).mono ?_; rintro e w1 ⟨rfl, b1⟩; have k1q := cell_on b1 k1) | (go_at_call 115; refine (isContractDay_any _ _).mono ?_; rintro e w2 ⟨rfl, rfl⟩) | (go_at_call 101; refine (within_any _ _ _ _).mono ?_; rintro e w2 ⟨rfl, rfl⟩))
      have hz1 := b1.size
      refine (namesActive_any A n c l dd w.heap.size B _ (h0.on hB0 b1) (Nat.le_trans hB0 hz1) (by omega) (cell_on b1 k1)).mono ?_
      rintro e w5 ⟨A5, m5, d5, rfl, s5, b5⟩
      have HF := Lib.hid (bnext (bnext HB0.out b1 (Nat.le_refl _)) b5 (Nat.le_refl _))
      have HS := Lib.hid s5
      have hz0 := HB0.out.size
      have hz5 : w.heap.size ≤ w1.heap.size := by omega
      clear s5 b5 b1 h1
      go_wp2
      go_ret2
      rw [HO.out, hl.out]
      exact ⟨_, _, _, rfl, HS.out.wide hz5 (Nat.le_refl _), HF.out⟩
end Go.Proofs.YtjmlcobbjpmjpaaGreatDoor
namespace Go.Proofs.YtjmlcobbjpmjpaaGreatDoor
open Go.RowKit

theorem left_pos (l : List Cl) (s : ByteArray) (d u : Int) : 0 ≤ (leftF l s d u).1 := by
  unfold leftF
  split
  · split
    · exact Int.le_refl _
    · split
      · unfold pos0; simp only; split <;> omega
      · exact Int.le_refl _
  · exact Int.le_refl _
theorem cl_inj {l : List Cl} (h : okCls l = true) {i j : Nat} {x y : Cl} (hx : l[i]? = some x) (hy : l[j]? = some y) (e : (x.name.toList == y.name.toList) = true) : i = j := by
  rcases Nat.lt_trichotomy i j with hlt | he | hlt
  · have := sless_ne (okCls_up h hx (j - i - 1) y (by rw [show i + 1 + (j - i - 1) = j by omega]; exact hy))
    rw [this] at e; simp at e
  · exact he
  · have := sless_ne (okCls_up h hy (i - j - 1) x (by rw [show j + 1 + (i - j - 1) = i by omega]; exact hx))
    rw [beq_iff_eq] at e
    rw [e] at this; simp at this
def hasW (xs : List ByteArray) (t : ByteArray) : Bool := xs.any fun y => y.toList == t.toList
theorem hasW_names {p : Cl → Bool} {l : List Cl} {i : Nat} {x : Cl} (h : okCls l = true) (hx : l[i]? = some x) : hasW (namesTo p l l.length) x.name = p x := by
  unfold hasW namesTo
  rw [List.take_length]
  rcases hp : p x with _ | _
  · rw [List.any_eq_false]
    intro t ht
    obtain ⟨y, hy, rfl⟩ := List.mem_map.1 ht
    obtain ⟨hy1, hy2⟩ := List.mem_filter.1 hy
    obtain ⟨j, hj, rfl⟩ := List.mem_iff_getElem.1 hy1
    intro e
    have hyj := List.getElem?_eq_getElem hj
    obtain rfl := cl_inj h hyj hx e
    rw [hyj] at hx
    injection hx with hx
    rw [hx, hp] at hy2
    exact absurd hy2 (by simp)
  · rw [List.any_eq_true]
    exact ⟨x.name, List.mem_map.2 ⟨x, List.mem_filter.2 ⟨List.mem_of_getElem? hx, hp⟩, rfl⟩, by simp⟩
theorem ends_zero {l : List Cl} {a b : Int} (h : (endsBetweenF l a b).2 = 0) : okCls l = true ∧ (endsBetweenF l a b).1 = namesTo (fun y => inR y.to_ a b) l l.length := by
  rcases h1 : okCls l with _ | _
  · rw [endsBetweenF_bad h1] at h; simp at h
  · rcases h2 : (inR a 0 20000 && inR b a 20000) with _ | _
    · rw [endsBetweenF_day h1 h2] at h; simp at h
    · rw [endsBetweenF_ok h1 h2]; exact ⟨rfl, rfl⟩
theorem quota_zero {l : List Cl} {st d : Int} (h : (quotaF l st d).2 = 0) : okCls l = true ∧ inR st 0 9 = true ∧ inR d 0 20000 = true ∧ quotaF l st d = (quotaSum l st d, 0) := by
  rcases h1 : okCls l with _ | _
  · rw [quotaF_bad h1] at h; simp at h
  · rcases h2 : inR st 0 9 with _ | _
    · rw [quotaF_st h1 h2] at h; simp at h
    · rcases h3 : inR d 0 20000 with _ | _
      · rw [quotaF_day h1 h2 h3] at h; simp at h
      · exact ⟨rfl, rfl, rfl, quotaF_ok h1 h2 h3⟩
theorem bestQ_max (f : Int → Int) : ∀ (k j : Nat), j < k → f j ≤ f (bestTo f k)
  | 0, j, h => by omega
  | k + 1, j, h => by
    rw [bestTo]
    by_cases hj : j = k
    · subst hj; split <;> omega
    · have := bestQ_max f k j (by omega)
      split <;> omega
theorem bestQ_lt (f : Int → Int) : bestTo f 10 ≤ 9 := by
  rw [show (10 : Nat) = 9 + 1 from rfl, bestTo]
  have := bestTo_bd f 9
  split <;> omega
/-- What the answers of BusiestStation say of the quota of any station. -/
structure BusyAt (l : List Cl) (st d b : Int) : Prop where
  b0 : 0 ≤ b
  b9 : b ≤ 9
  q : quotaF l b d = (quotaSum l b d, 0)
  pos : 0 < quotaSum l b d
  most : quotaSum l st d ≤ quotaSum l b d
  hi : quotaSum l b d ≤ 30000
theorem busy_cases {l : List Cl} {st d : Int} (h1 : okCls l = true) (h2 : inR st 0 9 = true) (h3 : inR d 0 20000 = true) :
    ∃ b c : Int, busyF l d = (b, c) ∧ (c ≠ 0 → quotaSum l st d = 0) ∧ (c = 0 → BusyAt l st d b) := by
  have hs := inR_true.1 h2
  obtain ⟨j, rfl⟩ := Int.eq_ofNat_of_zero_le hs.1
  have hm := bestQ_max (fun s => quotaSum l s d) 10 j (by omega)
  have h0 := (quotaSum_bd h1 (j : Int) d)
  have hb := bestTo_bd (fun s => quotaSum l s d) 10
  have hb2 := bestQ_lt (fun s => quotaSum l s d)
  by_cases h4 : quotaSum l (bestTo (fun s => quotaSum l s d) 10) d = 0
  · refine ⟨0, 3, busyF_none h1 h3 h4, fun _ => ?_, fun h => by simp at h⟩
    omega
  · refine ⟨_, 0, busyF_some h1 h3 h4, fun h => absurd rfl h, fun _ => ?_⟩
    have h5 := quotaSum_bd h1 (bestTo (fun s => quotaSum l s d) 10) d
    exact ⟨hb.1, hb2, quotaF_ok h1 (inR_true.2 ⟨hb.1, hb2⟩) h3, by omega, hm, h5.2⟩

theorem f6word_any (A : Option Addr) (n c B : Nat) (l : List ByteArray) (x : ByteArray) (w : World) (h : Reads w B 1 A n (strs l)) (hn : n ≤ 1048576) :
    Calls Tryz.prog 49 #[.slice A n c, .string x] w fun e w' => e = .returned (.bool (hasW l x)) ∧ w = w' := by
  have HL := Lib.hid (strs_len h)
  go_enter Tryz.func49, Tryz.ntmps49
  go_wp2
  go_loop [5] (fun i => ∃ k : Nat, k ≤ n ∧ i = .int .i64 k ∧ AllTo (fun y : ByteArray => !(y.toList == x.toList)) l k) (fun i => n - (intOf i).toNat)
  case atStart => exact ⟨0, Nat.zero_le _, rfl, AllTo.zero _ _⟩
  case round =>
    obtain ⟨k, hk, rfl, hall⟩ := hrel
    have HA := Lib.hid hall
    clear hall
    by_cases hlt : k < n
    · obtain ⟨y, b, off, he, rfl, hb, c0⟩ := str_at h hlt
      have HE := Lib.hid he
      clear he
      rcases hy : (y.toList == x.toList) with _ | _
      · have HY := Lib.hid hy
        go_wp2
        go_round
        case rel => exact ⟨k + 1, by omega, by go_num, HA.out.step HE.out (by rw [HY.out]; rfl)⟩
        case measure => simp [intOf]; omega
      · have HY := Lib.hid (show hasW l x = true from any_of (p := fun z : ByteArray => z.toList == x.toList) HE.out hy)
        go_wp2
        go_ret
        exact ⟨ret_bool HY.out.symm, rfl⟩
    · obtain rfl : k = n := by omega
      have HY := Lib.hid (show hasW l x = false from any_none (p := fun z : ByteArray => z.toList == x.toList) HA.out HL.out)
      go_wp2
      go_ret
      exact ⟨ret_bool HY.out.symm, rfl⟩
end Go.Proofs.YtjmlcobbjpmjpaaGreatDoor
namespace Go.Proofs.YtjmlcobbjpmjpaaGreatDoor
open Go.RowKit

theorem info_cl : (Tryz.prog.info? 48).map (fun i => (i.zero, i.size, i.bytes)) = some (some (.agg #[.string ⟨#[]⟩, .int .i64 0, .int .i64 0, .int .i64 0, .int .i64 0]), 5, 48) := by kernel_rfl
theorem cls_one (l : List Cl) : ∀ u ∈ cls l, u.oneCell' = true := by
  intro u hu
  simp only [cls, List.mem_flatMap, cellsCl, List.mem_cons, List.not_mem_nil, or_false] at hu
  obtain ⟨x, _, h⟩ := hu
  rcases h with rfl | rfl | rfl | rfl | rfl <;> rfl
theorem cls_set3 : ∀ {l : List Cl} {i : Nat} {x : Cl} (t : Int), l[i]? = some x → cls (l.set i {x with to_ := t}) = (cls l).set (i * 5 + 3) (.int .i64 t)
  | [], i, x, t, h => by simp at h
  | z :: r, 0, x, t, h => by
    simp only [List.getElem?_cons_zero, Option.some.injEq] at h
    subst h
    rfl
  | z :: r, i + 1, x, t, h => by
    simp only [List.getElem?_cons_succ] at h
    have ih := cls_set3 (l := r) t h
    rw [List.set_cons_succ, show (i + 1) * 5 + 3 = (i * 5 + 3) + 1 + 1 + 1 + 1 + 1 from by omega]
    show cellsCl z ++ cls (r.set i _) = (cellsCl z ++ cls r).set _ _
    rw [ih]
    rfl
theorem set_same {α : Type} {xs : List α} {j : Nat} {v : α} (h : xs[j]? = some v) : xs.set j v = xs := by
  obtain ⟨hj, rfl⟩ := List.getElem?_eq_some_iff.1 h
  exact List.set_getElem_self hj
def extF (l : List Cl) (s : ByteArray) (d : Int) : List Cl × Int :=
  if (namedF l s (inR d 1 20000)).2 = 0 then (match l[(namedF l s (inR d 1 20000)).1.toNat]? with
    | none => ([], 0)
    | some x => if 20000 < x.to_ + d then ([], 5) else (l.set (namedF l s (inR d 1 20000)).1.toNat {x with to_ := x.to_ + d}, 0)) else ([], (namedF l s (inR d 1 20000)).2)
theorem extF_bad {l : List Cl} {s : ByteArray} {d : Int} {q : Bool} (hq : inR d 1 20000 = q) (h : (namedF l s q).2 ≠ 0) : extF l s d = ([], (namedF l s q).2) := by subst hq; simp only [extF, h, if_false]
theorem extF_far {l : List Cl} {s : ByteArray} {d : Int} {i : Nat} {x : Cl} (hq : inR d 1 20000 = true) (h : namedF l s true = ((i : Int), 0)) (hx : l[i]? = some x) (ha : 20000 < x.to_ + d) : extF l s d = ([], 5) := by simp [extF, hq, h, hx, ha]
theorem extF_ok {l : List Cl} {s : ByteArray} {d : Int} {i : Nat} {x : Cl} (hq : inR d 1 20000 = true) (h : namedF l s true = ((i : Int), 0)) (hx : l[i]? = some x) (ha : ¬ 20000 < x.to_ + d) : extF l s d = (l.set i {x with to_ := x.to_ + d}, 0) := by
  have ha' : x.to_ + d ≤ 20000 := by omega
  simp [extF, hq, h, hx, ha']
theorem cntExtendContract_len {l : List Cl} {s : ByteArray} {d : Int} {m : Nat} (h : (cls (extF l s d).1).length = m * 5) : m ≤ 1048576 := by
  rw [cls_length] at h
  have h2 : (extF l s d).1.length ≤ 30 := by
    by_cases hz : (namedF l s (inR d 1 20000)).2 = 0
    · have hok : okCls l = true := by
        rcases h1 : okCls l with _ | _
        · rw [namedF_bad h1] at hz; cases hz
        · rfl
      have := okCls_len hok
      unfold extF
      rw [if_pos hz]
      split
      · simp
      · split
        · simp
        · simp; omega
    · rw [extF_bad rfl hz]; simp
  omega
end Go.Proofs.YtjmlcobbjpmjpaaGreatDoor
