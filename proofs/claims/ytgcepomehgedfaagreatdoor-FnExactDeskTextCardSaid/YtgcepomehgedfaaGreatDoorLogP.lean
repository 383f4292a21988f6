/- What is read of a log: the plain law. -/
import Derived.Test.YtgcepomehgedfaaGreatDoorTxtEn
import Derived.Test.YtgcepomehgedfaaGreatDoorSplit
import Derived.Test.YtgcepomehgedfaaGreatDoorDec
import Derived.Test.YtgcepomehgedfaaGreatDoorSpl
set_option linter.unusedVariables false
set_option linter.unusedSimpArgs false
namespace Go.Proofs.YtgcepomehgedfaaGreatDoor
open Go.RowKit Go.Lib

/-- The entry and the stamp of four words. -/
def wordsF (a b c d : ByteArray) : Option (En × Int) :=
  if (isDec a.data.toList && isDec c.data.toList && isDec d.data.toList && okEn ⟨numS a.data.toList, b, numS c.data.toList⟩) = true then some (⟨numS a.data.toList, b, numS c.data.toList⟩, numS d.data.toList) else none
/-- The entry and the stamp of a line. -/
def lineF (line : ByteArray) : Option (En × Int) := match splitS 32 line with
  | [a, b, c, d] => wordsF a b c d
  | _ => none
theorem lineF_four {line a b c d : ByteArray} (h : splitS 32 line = [a, b, c, d]) : lineF line = wordsF a b c d := by simp [lineF, h]
theorem lineF_other {line : ByteArray} (h : (splitS 32 line).length ≠ 4) : lineF line = none := by
  unfold lineF
  split
  · rename_i e; rw [e] at h; simp at h
  · rfl
theorem four_of {α : Type} {l : List α} (h : l.length = 4) : ∃ a b c d, l = [a, b, c, d] := by
  match l, h with
  | [a, b, c, d], _ => exact ⟨a, b, c, d, rfl⟩
theorem wordsF_yes {a b c d : ByteArray} (h1 : isDec a.data.toList = true) (h2 : isDec c.data.toList = true) (h3 : isDec d.data.toList = true) (h4 : okEn ⟨numS a.data.toList, b, numS c.data.toList⟩ = true) :
    wordsF a b c d = some (⟨numS a.data.toList, b, numS c.data.toList⟩, numS d.data.toList) := by simp [wordsF, h1, h2, h3, h4]
theorem wordsF_no1 {a b c d : ByteArray} (h : isDec a.data.toList = false) : wordsF a b c d = none := by simp [wordsF, h]
theorem wordsF_no2 {a b c d : ByteArray} (h : isDec c.data.toList = false) : wordsF a b c d = none := by simp [wordsF, h]
theorem wordsF_no3 {a b c d : ByteArray} (h : isDec d.data.toList = false) : wordsF a b c d = none := by simp [wordsF, h]
theorem wordsF_no4 {a b c d : ByteArray} (h : okEn ⟨numS a.data.toList, b, numS c.data.toList⟩ = false) : wordsF a b c d = none := by simp [wordsF, h]

structure LogR where
  list : List En
  stamp : Int
  at_ : Nat
def dayR (l : List En) : Int := match l.getLast? with
  | none => 0
  | some x => x.day
def stepF (r : LogR) (line : ByteArray) : Option LogR := match lineF line with
  | none => none
  | some (e, st) => if (decide (dayR r.list ≤ e.day) && (stampW r.stamp (wordsB e) == st)) = true then some ⟨r.list ++ [e], st, r.at_ + line.size + 1⟩ else none
def logGo : List ByteArray → LogR → LogR
  | [], r => r
  | [_], r => r
  | l :: m :: t, r => match stepF r l with
    | none => r
    | some r' => logGo (m :: t) r'
def logR (s : ByteArray) : LogR := logGo (splitS 10 s) ⟨[], 0, 0⟩
theorem splitS_ne (c : UInt8) (s : ByteArray) : splitS c s ≠ [] := by
  intro h
  have := splitS_len c s
  rw [h] at this
  cases this
theorem logGo_miss {s : ByteArray} {r : LogR} (h : (10 : UInt8) ∉ s.data.toList) : logGo (splitS 10 s) r = r := by
  rw [split_end h]; rfl
/-- One line more. -/
theorem logGo_hit {s : ByteArray} {j k : Nat} {r : LogR} (hn : (10 : UInt8) ∉ (s.extract j k).data.toList) (hj : j ≤ k) (hk : k < s.size) (hc : s[k] = 10) :
    logGo (splitS 10 (s.extract j s.size)) r = match stepF r (s.extract j k) with
      | none => r
      | some r' => logGo (splitS 10 (s.extract (k + 1) s.size)) r' := by
  rw [split_step hn hj hk hc]
  rcases h : splitS 10 (s.extract (k + 1) s.size) with _ | ⟨m, t⟩
  · exact absurd h (splitS_ne _ _)
  · rfl
/-- The same, the text given by its parts. -/
theorem logGo_cut {s a : ByteArray} {t : List UInt8} {r : LogR} (he : s.data.toList = a.data.toList ++ 10 :: t) (hn : (10 : UInt8) ∉ a.data.toList) :
    logGo (splitS 10 s) r = match stepF r a with
      | none => r
      | some r' => logGo (splitS 10 (asBytes t)) r' := by
  have e : splitS 10 s = a :: splitS 10 (asBytes t) := by
    unfold splitS
    rw [he, splitL_hit hn, List.map_cons, asBytes_data, data_asBytes]
  rw [e]
  rcases h : splitS 10 (asBytes t) with _ | ⟨m, t'⟩
  · exact absurd h (splitS_ne _ _)
  · rfl
theorem rest_cut {s a : ByteArray} {j : Nat} {t : List UInt8} (hj : j ≤ s.size) (he : (s.extract j s.size).data.toList = a.data.toList ++ 10 :: t) : asBytes t = s.extract (j + a.size + 1) s.size ∧ j + a.size + 1 ≤ s.size := by
  have hl := data_len s
  have ha := data_len a
  rw [extract_to_end] at he
  have h1 := congrArg List.length he
  simp only [List.length_drop, List.length_append, List.length_cons] at h1
  refine ⟨?_, by omega⟩
  rw [← asBytes_data (s.extract (j + a.size + 1) s.size), extract_to_end]
  congr 1
  rw [show j + a.size + 1 = j + (a.size + 1) by omega, ← List.drop_drop, he, ← ha, ← List.drop_drop, List.drop_left]
  rfl
theorem stepF_none {r : LogR} {line : ByteArray} (h : lineF line = none) : stepF r line = none := by simp [stepF, h]
theorem stepF_day {r : LogR} {line : ByteArray} {e : En} {st : Int} (h : lineF line = some (e, st)) (h2 : ¬ (dayR r.list ≤ e.day)) : stepF r line = none := by simp [stepF, h, h2]
theorem stepF_stamp {r : LogR} {line : ByteArray} {e : En} {st : Int} (h : lineF line = some (e, st)) (h2 : stampW r.stamp (wordsB e) ≠ st) : stepF r line = none := by simp [stepF, h, h2]
theorem stepF_yes {r : LogR} {line : ByteArray} {e : En} {st : Int} (h : lineF line = some (e, st)) (h1 : dayR r.list ≤ e.day) (h2 : stampW r.stamp (wordsB e) = st) : stepF r line = some ⟨r.list ++ [e], st, r.at_ + line.size + 1⟩ := by simp [stepF, h, h1, h2]

theorem okEn_bd {x : En} (h : okEn x = true) : 0 ≤ x.day ∧ x.day ≤ 100000 ∧ isName x.what = true ∧ -1000000 ≤ x.val ∧ x.val ≤ 1000000 := by
  simp only [okEn, Bool.and_eq_true] at h
  have h1 := inR_true.1 h.1.1
  have h2 := inR_true.1 h.2
  exact ⟨h1.1, h1.2, h.1.2, h2.1, h2.2⟩
theorem okEn_what {x : En} (h : okEn x = true) : x.what.size ≤ 12 := by
  have := (okEn_bd h).2.2.1
  simp only [isName, Bool.and_eq_true, decide_eq_true_eq] at this
  omega
theorem okEn_good {x : En} (h : okEn x = true) : x.good := by
  have h1 := okEn_bd h
  have h2 := okEn_what h
  exact ⟨⟨by omega, by omega⟩, by omega, ⟨by omega, by omega⟩⟩
theorem okEn_small {x : En} (h : okEn x = true) : x.small := by
  have h2 := okEn_what h
  unfold En.small
  omega
theorem lineF_ok {line : ByteArray} {e : En} {st : Int} (h : lineF line = some (e, st)) : okEn e = true := by
  unfold lineF at h
  split at h
  · unfold wordsF at h
    split at h
    · rename_i h2
      simp only [Bool.and_eq_true] at h2
      injection h with h
      injection h with h h'
      subst h
      exact h2.2
    · cases h
  · cases h
theorem lineF_bd {line : ByteArray} {e : En} {st : Int} (h : lineF line = some (e, st)) : e.good ∧ e.small := ⟨okEn_good (lineF_ok h), okEn_small (lineF_ok h)⟩
theorem dayR_nil : dayR [] = 0 := rfl
theorem dayR_last {l : List En} {x : En} (h : l[l.length - 1]? = some x) : dayR l = x.day := by
  have h2 : l.getLast? = some x := by rw [List.getLast?_eq_getElem?]; exact h
  simp [dayR, h2]
/-- What holds of whatever has been read. -/
structure LogR.ok (r : LogR) : Prop where
  ok : ∀ x ∈ r.list, okEn x = true
  stamp0 : 0 ≤ r.stamp
  stamp1 : r.stamp ≤ 65518
  len : r.list.length ≤ r.at_
theorem LogR.ok_start : (⟨[], 0, 0⟩ : LogR).ok := ⟨fun x hx => by simp at hx, by simp, by simp, by simp⟩
theorem LogR.ok_step {r r' : LogR} {line : ByteArray} (h : r.ok) (hs : stepF r line = some r') : r'.ok ∧ r'.at_ = r.at_ + line.size + 1 ∧ ∃ e, r'.list = r.list ++ [e] ∧ okEn e = true := by
  rcases hl : lineF line with _ | ⟨e, st⟩
  · rw [stepF_none hl] at hs; cases hs
  · by_cases h1 : dayR r.list ≤ e.day
    · by_cases h2 : stampW r.stamp (wordsB e) = st
      · rw [stepF_yes hl h1 h2] at hs
        injection hs with hs
        subst hs
        have he := lineF_ok hl
        have hb := stampW_bd r.stamp (wordsB e)
        refine ⟨⟨fun x hx => ?_, by rw [← h2]; exact hb.1, by rw [← h2]; exact hb.2, ?_⟩, rfl, e, rfl, he⟩
        · rcases List.mem_append.1 hx with hx | hx
          · exact h.ok x hx
          · rw [List.mem_singleton] at hx; subst hx; exact he
        · have := h.len
          simp only [List.length_append, List.length_singleton]
          omega
      · rw [stepF_stamp hl h2] at hs; cases hs
    · rw [stepF_day hl h1] at hs; cases hs
theorem logGo_ok : ∀ (l : List ByteArray) (r : LogR), r.ok → (logGo l r).ok
  | [], r, h => h
  | [_], r, h => h
  | a :: m :: t, r, h => by
    rw [logGo]
    rcases hs : stepF r a with _ | r'
    · exact h
    · exact logGo_ok (m :: t) r' (LogR.ok_step h hs).1
theorem logR_ok (s : ByteArray) : (logR s).ok := logGo_ok _ _ LogR.ok_start
def piecesLen : List ByteArray → Nat
  | [] => 0
  | [x] => x.size
  | x :: y :: t => x.size + 1 + piecesLen (y :: t)
theorem piecesLen_split (c : UInt8) : ∀ l : List UInt8, piecesLen ((splitL c l).map asBytes) = l.length
  | [] => rfl
  | x :: r => by
    have ih := piecesLen_split c r
    rw [splitL]
    by_cases h : x = c
    · subst h
      rw [if_pos rfl]
      have hne := splitL_ne x r
      revert ih hne
      cases splitL x r with
      | nil => intro _ hne; exact absurd rfl hne
      | cons y t =>
        intro ih _
        rw [List.map_cons] at ih
        rw [List.map_cons, List.map_cons, piecesLen, ih, asBytes_size, List.length_cons]
        simp; omega
    · rw [if_neg h]
      have hne := splitL_ne c r
      revert ih hne
      cases splitL c r with
      | nil => intro _ hne; exact absurd rfl hne
      | cons y t =>
        intro ih _
        cases t with
        | nil =>
          simp only [List.map_cons, List.map_nil, piecesLen, asBytes_size] at ih ⊢
          simp [ih]
        | cons z u =>
          simp only [List.map_cons, piecesLen, asBytes_size, List.length_cons] at ih ⊢
          omega
theorem logGo_at : ∀ (l : List ByteArray) (r : LogR), (logGo l r).at_ ≤ r.at_ + piecesLen l
  | [], r => by simp [logGo, piecesLen]
  | [_], r => by simp [logGo]
  | a :: m :: t, r => by
    rw [logGo, piecesLen]
    rcases hs : stepF r a with _ | r'
    · simp only; omega
    · have h2 : r'.at_ = r.at_ + a.size + 1 := by
        rcases hl : lineF a with _ | ⟨e, st⟩
        · rw [stepF_none hl] at hs; cases hs
        · by_cases h1 : dayR r.list ≤ e.day
          · by_cases h2 : stampW r.stamp (wordsB e) = st
            · rw [stepF_yes hl h1 h2] at hs
              injection hs with hs
              subst hs
              rfl
            · rw [stepF_stamp hl h2] at hs; cases hs
          · rw [stepF_day hl h1] at hs; cases hs
      have := logGo_at (m :: t) r'
      simp only
      omega
theorem logR_at (s : ByteArray) : (logR s).at_ ≤ s.size := by
  have h := logGo_at (splitS 10 s) ⟨[], 0, 0⟩
  have h2 := piecesLen_split 10 s.data.toList
  unfold splitS at h
  rw [h2, data_len] at h
  unfold logR splitS
  simpa using h
/-- The text of a line with its newline. -/
def lineB (st : Int) (e : En) : ByteArray := wordsB e ++ ⟨#[32]⟩ ++ asBytes (itoa st) ++ ⟨#[10]⟩
theorem data_app (a b : ByteArray) : (a ++ b).data.toList = a.data.toList ++ b.data.toList := by simp
theorem wordsB_data (e : En) : (wordsB e).data.toList = itoa e.day ++ 32 :: (e.what.data.toList ++ 32 :: itoa e.val) := by
  simp [wordsB, data_asBytes]
theorem lineB_data (st : Int) (e : En) : (lineB st e).data.toList = itoa e.day ++ 32 :: (e.what.data.toList ++ 32 :: (itoa e.val ++ 32 :: (itoa st ++ [10]))) := by
  simp [lineB, wordsB, data_asBytes]
theorem bytes_ext {a b : ByteArray} (h : a.data.toList = b.data.toList) : a = b := by
  rw [← asBytes_data a, h, asBytes_data]
theorem four_data {line a b c d : ByteArray} (h : splitS 32 line = [a, b, c, d]) : line.data.toList = a.data.toList ++ 32 :: (b.data.toList ++ 32 :: (c.data.toList ++ 32 :: d.data.toList)) := by
  have h2 : splitL 32 line.data.toList = [a.data.toList, b.data.toList, c.data.toList, d.data.toList] := by
    have h3 := congrArg (List.map (fun x : ByteArray => x.data.toList)) h
    simp only [splitS, List.map_map, List.map_cons, List.map_nil] at h3
    rw [← h3]
    conv => lhs; rw [← List.map_id (splitL 32 line.data.toList)]
    congr 1
  have := joinL_splitL 32 line.data.toList
  rw [h2] at this
  rw [← this]
  rfl
/-- A line is the text of its entry and its stamp: just where its fourth word is the stamp's decimal form. -/
theorem line_text {line a b c d : ByteArray} {st : Int} (h : splitS 32 line = [a, b, c, d]) (h1 : isDec a.data.toList = true) (h2 : isDec c.data.toList = true) (hs0 : 0 ≤ st) (hs1 : st ≤ 65518) :
    (lineB st ⟨numS a.data.toList, b, numS c.data.toList⟩ = line ++ ⟨#[10]⟩) ↔ (isDec d.data.toList = true ∧ numS d.data.toList = st) := by
  have e1 : (lineB st ⟨numS a.data.toList, b, numS c.data.toList⟩).data.toList = a.data.toList ++ 32 :: (b.data.toList ++ 32 :: (c.data.toList ++ 32 :: (itoa st ++ [10]))) := by
    rw [lineB_data]; simp only [itoa_numS h1, itoa_numS h2]
  have e2 : (line ++ (⟨#[10]⟩ : ByteArray)).data.toList = a.data.toList ++ 32 :: (b.data.toList ++ 32 :: (c.data.toList ++ 32 :: (d.data.toList ++ [10]))) := by
    rw [data_app, four_data h]; simp
  constructor
  · intro hh
    have e3 := congrArg (fun x : ByteArray => x.data.toList) hh
    rw [e1, e2] at e3
    have e4 : itoa st = d.data.toList := by simpa using e3
    have := isDec_itoa (n := st) (by omega) (by omega)
    rw [e4] at this
    exact this
  · rintro ⟨h3, h4⟩
    apply bytes_ext
    rw [e1, e2, ← h4, itoa_numS h3]
theorem lineB_size {st : Int} {e : En} (h : okEn e = true) (hs0 : 0 ≤ st) (hs1 : st ≤ 65518) : (lineB st e).size ≤ 80 := by
  have h1 := okEn_good h
  have h2 := okEn_what h
  have g1 := itoa_len h1.1.1 h1.1.2
  have g2 := itoa_len h1.2.2.1 h1.2.2.2
  have g3 := itoa_len (n := st) (by omega) (by omega)
  have e1 : (lineB st e).size = (wordsB e).size + 1 + (itoa st).length + 1 := by
    simp only [lineB, ByteArray.size_append, asBytes_size]; rfl
  rw [e1, wordsB_size]
  omega
theorem wordsB_small {e : En} (h : okEn e = true) : (wordsB e).size ≤ 60 := by
  have h1 := okEn_good h
  have h2 := okEn_what h
  have g1 := itoa_len h1.1.1 h1.1.2
  have g2 := itoa_len h1.2.2.1 h1.2.2.2
  rw [wordsB_size]
  omega
end Go.Proofs.YtgcepomehgedfaaGreatDoor
