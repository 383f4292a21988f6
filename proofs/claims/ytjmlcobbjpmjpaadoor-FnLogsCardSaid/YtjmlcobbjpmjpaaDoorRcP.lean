/- A client read from a text: the plain law. -/
import Derived.Test.YtjmlcobbjpmjpaaDoorTxtCl
import Derived.Test.YtjmlcobbjpmjpaaDoorSplit
import Derived.Test.YtjmlcobbjpmjpaaDoorDec
import Derived.Test.YtjmlcobbjpmjpaaDoorLogP
set_option linter.unusedVariables false
set_option linter.unusedSimpArgs false
namespace Go.Proofs.YtjmlcobbjpmjpaaDoor
open Go.RowKit Go.Lib

def clOf (nm st f t q : ByteArray) : Cl := ⟨nm, numS st.data.toList, numS f.data.toList, numS t.data.toList, numS q.data.toList⟩
def decs4 (st f t q : ByteArray) : Bool := isDec st.data.toList && (isDec f.data.toList && (isDec t.data.toList && isDec q.data.toList))
def partsCl (v d : List ByteArray) (q : ByteArray) : Option Cl := match v, d with
  | [nm, st], [f, t] => if (decs4 st f t q && okCl (clOf nm st f t q)) = true then some (clOf nm st f t q) else none
  | _, _ => none
def parseCl (s : ByteArray) : Option Cl := match splitS 32 s with
  | [a, b, c] => match c.data.toList with
    | x :: q => if x = 120 then partsCl (splitS 64 a) (splitS 45 b) (asBytes q) else none
    | [] => none
  | _ => none
theorem parseCl_three {s : ByteArray} (h : (splitS 32 s).length ≠ 3) : parseCl s = none := by
  unfold parseCl
  split
  · rename_i e; rw [e] at h; simp at h
  · rfl
theorem three_of {α : Type} {l : List α} (h : l.length = 3) : ∃ a b c, l = [a, b, c] := by
  match l, h with
  | [a, b, c], _ => exact ⟨a, b, c, rfl⟩
theorem two_of {α : Type} {l : List α} (h : l.length = 2) : ∃ a b, l = [a, b] := by
  match l, h with
  | [a, b], _ => exact ⟨a, b, rfl⟩
theorem parseCl_eq {s a b c : ByteArray} {q : List UInt8} (h : splitS 32 s = [a, b, c]) (hc : c.data.toList = 120 :: q) : parseCl s = partsCl (splitS 64 a) (splitS 45 b) (asBytes q) := by
  simp [parseCl, h, hc]
theorem parseCl_x {s a b c : ByteArray} (h : splitS 32 s = [a, b, c]) (hc : ∀ q, c.data.toList ≠ 120 :: q) : parseCl s = none := by
  simp only [parseCl, h]
  split
  · rename_i x q e
    split
    · rename_i e2; subst e2; exact absurd e (hc q)
    · rfl
  · rfl
theorem partsCl_len {v d : List ByteArray} {q : ByteArray} (h : v.length ≠ 2 ∨ d.length ≠ 2) : partsCl v d q = none := by
  unfold partsCl
  split
  · simp at h
  · rfl
theorem partsCl_yes {nm st f t q : ByteArray} (h : decs4 st f t q = true) (h2 : okCl (clOf nm st f t q) = true) : partsCl [nm, st] [f, t] q = some (clOf nm st f t q) := by simp [partsCl, h, h2]
theorem partsCl_no {nm st f t q : ByteArray} (h : decs4 st f t q = false) : partsCl [nm, st] [f, t] q = none := by simp [partsCl, h]
theorem partsCl_bad {nm st f t q : ByteArray} (h : okCl (clOf nm st f t q) = false) : partsCl [nm, st] [f, t] q = none := by simp [partsCl, h]
/-- What there is of a text that reads as a client. -/
theorem parseCl_some {s : ByteArray} {y : Cl} (h : parseCl s = some y) : ∃ (a b c nm st f t : ByteArray) (q : List UInt8), splitS 32 s = [a, b, c] ∧ c.data.toList = 120 :: q ∧ splitS 64 a = [nm, st] ∧ splitS 45 b = [f, t] ∧ decs4 st f t (asBytes q) = true ∧ okCl (clOf nm st f t (asBytes q)) = true ∧ y = clOf nm st f t (asBytes q) := by
  by_cases h3 : (splitS 32 s).length = 3
  · obtain ⟨a, b, c, e3⟩ := three_of h3
    by_cases hx : ∃ q, c.data.toList = 120 :: q
    · obtain ⟨q, hq⟩ := hx
      rw [parseCl_eq e3 hq] at h
      by_cases h2 : (splitS 64 a).length ≠ 2 ∨ (splitS 45 b).length ≠ 2
      · rw [partsCl_len h2] at h; cases h
      · obtain ⟨nm, st, e1⟩ := two_of (l := splitS 64 a) (by omega)
        obtain ⟨f, t, e2⟩ := two_of (l := splitS 45 b) (by omega)
        rw [e1, e2] at h
        rcases hd : decs4 st f t (asBytes q) with _ | _
        · rw [partsCl_no hd] at h; cases h
        · rcases ho : okCl (clOf nm st f t (asBytes q)) with _ | _
          · rw [partsCl_bad ho] at h; cases h
          · rw [partsCl_yes hd ho] at h
            injection h with h
            exact ⟨a, b, c, nm, st, f, t, q, e3, hq, e1, e2, hd, ho, h.symm⟩
    · rw [parseCl_x e3 (fun q hq => hx ⟨q, hq⟩)] at h; cases h
  · rw [parseCl_three h3] at h; cases h
theorem splitS_data {c : UInt8} {s : ByteArray} {l : List (List UInt8)} (h : splitL c s.data.toList = l) : splitS c s = l.map asBytes := by rw [splitS, h]
theorem join_split {c : UInt8} {s : ByteArray} {l : List ByteArray} (h : splitS c s = l) : s.data.toList = joinL c (l.map fun x => x.data.toList) := by
  have h1 := joinL_splitL c s.data.toList
  rw [← h1]
  congr 1
  rw [← h, splitS, List.map_map]
  conv => lhs; rw [← List.map_id (splitL c s.data.toList)]
  congr 1
theorem nameC_ne {c : UInt8} (h : nameC c = true) : c ≠ 32 ∧ c ≠ 64 := by
  constructor
  · rintro rfl; revert h; decide
  · rintro rfl; revert h; decide
theorem name_free {s : ByteArray} (h : isName s = true) : (32 : UInt8) ∉ s.data.toList ∧ (64 : UInt8) ∉ s.data.toList := by
  simp only [isName, Bool.and_eq_true] at h
  have h2 := List.all_eq_true.1 h.2
  exact ⟨fun hm => (nameC_ne (h2 _ hm)).1 rfl, fun hm => (nameC_ne (h2 _ hm)).2 rfl⟩
theorem dig_free {l : List UInt8} (h : l.all isDig = true) : (32 : UInt8) ∉ l ∧ (64 : UInt8) ∉ l ∧ (45 : UInt8) ∉ l := by
  have h2 := List.all_eq_true.1 h
  refine ⟨fun hm => ?_, fun hm => ?_, fun hm => ?_⟩
  · have := h2 _ hm; revert this; decide
  · have := h2 _ hm; revert this; decide
  · have := h2 _ hm; revert this; decide
theorem itoa_free {n : Int} (h : 0 ≤ n) : (32 : UInt8) ∉ itoa n ∧ (64 : UInt8) ∉ itoa n ∧ (45 : UInt8) ∉ itoa n := by
  have e : itoa n = decDigits n.toNat := by unfold itoa; rw [if_neg (by omega)]
  rw [e]
  exact dig_free (decDigits_dig n.toNat)
/-- The text of a valid client reads as that client. -/
theorem parse_text {x : Cl} (h : okCl x = true) : parseCl (textCl x) = some x := by
  obtain ⟨hn, h1, h2, h3, h4⟩ := okCl_iff.1 h
  have fn := name_free hn
  have f1 := itoa_free (n := x.station) (by omega)
  have f2 := itoa_free (n := x.from_) (by omega)
  have f3 := itoa_free (n := x.to_) (by omega)
  have f4 := itoa_free (n := x.quota) (by omega)
  have d1 := isDec_itoa (n := x.station) (by omega) (by omega)
  have d2 := isDec_itoa (n := x.from_) (by omega) (by omega)
  have d3 := isDec_itoa (n := x.to_) (by omega) (by omega)
  have d4 := isDec_itoa (n := x.quota) (by omega) (by omega)
  have hd : (textCl x).data.toList = (x.name.data.toList ++ 64 :: itoa x.station) ++ 32 :: ((itoa x.from_ ++ 45 :: itoa x.to_) ++ 32 :: (120 :: itoa x.quota)) := by
    rw [textCl_yes h]
    simp [data_asBytes]
  have s1 : splitL 32 (textCl x).data.toList = [x.name.data.toList ++ 64 :: itoa x.station, itoa x.from_ ++ 45 :: itoa x.to_, 120 :: itoa x.quota] := by
    rw [hd, splitL_hit (by simp [fn.1, f1.1]), splitL_hit (by simp [f2.1, f3.1]), splitL_none (by simp [f4.1])]
  have s2 := splitS_data s1
  simp only [List.map_cons, List.map_nil] at s2
  have s3 : splitS 64 (asBytes (x.name.data.toList ++ 64 :: itoa x.station)) = [x.name, asBytes (itoa x.station)] := by
    have := splitS_data (c := 64) (s := asBytes (x.name.data.toList ++ 64 :: itoa x.station)) (l := [x.name.data.toList, itoa x.station]) (by rw [data_asBytes, splitL_hit fn.2, splitL_none f1.2.1])
    rw [this]
    simp [asBytes_data]
  have s4 : splitS 45 (asBytes (itoa x.from_ ++ 45 :: itoa x.to_)) = [asBytes (itoa x.from_), asBytes (itoa x.to_)] := by
    have := splitS_data (c := 45) (s := asBytes (itoa x.from_ ++ 45 :: itoa x.to_)) (l := [itoa x.from_, itoa x.to_]) (by rw [data_asBytes, splitL_hit f2.2.2, splitL_none f3.2.2])
    rw [this]
    rfl
  have hcl : clOf x.name (asBytes (itoa x.station)) (asBytes (itoa x.from_)) (asBytes (itoa x.to_)) (asBytes (itoa x.quota)) = x := by
    simp only [clOf, data_asBytes, d1.2, d2.2, d3.2, d4.2]
  rw [parseCl_eq s2 (by rw [data_asBytes]), s3, s4, partsCl_yes (by simp only [decs4, data_asBytes, d1.1, d2.1, d3.1, d4.1, Bool.and_self]) (by rw [hcl]; exact h), hcl]
/-- A text that reads as a client is that client's text. -/
theorem text_parse {s : ByteArray} {y : Cl} (h : parseCl s = some y) : okCl y = true ∧ textCl y = s := by
  obtain ⟨a, b, c, nm, st, f, t, q, e3, hq, e1, e2, hd, ho, rfl⟩ := parseCl_some h
  refine ⟨ho, ?_⟩
  simp only [decs4, data_asBytes, Bool.and_eq_true] at hd
  apply bytes_ext
  have j3 := join_split e3
  have j1 := join_split e1
  have j2 := join_split e2
  simp only [List.map_cons, List.map_nil, joinL] at j1 j2 j3
  rw [textCl_yes ho, j3, j1, j2, hq]
  simp only [clOf, data_app, data_asBytes, itoa_numS hd.1, itoa_numS hd.2.1, itoa_numS hd.2.2.1, itoa_numS hd.2.2.2]
  simp
end Go.Proofs.YtjmlcobbjpmjpaaDoor
