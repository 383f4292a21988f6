/- A log that was made gives back its entries: the plain law. -/
import Derived.Test.YtjmlcobbjpmjpaaDoorLogL
import Derived.Test.YtjmlcobbjpmjpaaDoorRcP
set_option linter.unusedVariables false
set_option linter.unusedSimpArgs false
namespace Go.Proofs.YtjmlcobbjpmjpaaDoor
open Go.RowKit Go.Lib

def lineBody (st : Int) (e : En) : List UInt8 := itoa e.day ++ 32 :: (e.what.data.toList ++ 32 :: (itoa e.val ++ 32 :: itoa st))
theorem lineB_body (st : Int) (e : En) : (lineB st e).data.toList = lineBody st e ++ [10] := by
  rw [lineB_data]
  simp [lineBody]
theorem itoa_chars (n : Int) : (32 : UInt8) ∉ itoa n ∧ (10 : UInt8) ∉ itoa n := by
  have h : ∀ u, (32 : UInt8) ∉ decDigits u ∧ (10 : UInt8) ∉ decDigits u := fun u => by
    have h2 := List.all_eq_true.1 (decDigits_dig u)
    refine ⟨fun hm => ?_, fun hm => ?_⟩
    · have := h2 _ hm; revert this; decide
    · have := h2 _ hm; revert this; decide
  unfold itoa
  split
  · refine ⟨fun hm => ?_, fun hm => ?_⟩
    · rcases List.mem_cons.1 hm with hm | hm
      · revert hm; decide
      · exact (h _).1 hm
    · rcases List.mem_cons.1 hm with hm | hm
      · revert hm; decide
      · exact (h _).2 hm
  · exact h _
theorem name_free10 {s : ByteArray} (h : isName s = true) : (10 : UInt8) ∉ s.data.toList := by
  simp only [isName, Bool.and_eq_true] at h
  intro hm
  have := List.all_eq_true.1 h.2 _ hm
  revert this; decide
theorem body_free {st : Int} {e : En} (h : okEn e = true) : (10 : UInt8) ∉ lineBody st e := by
  have h1 := (itoa_chars e.day).2
  have h2 := (itoa_chars e.val).2
  have h3 := (itoa_chars st).2
  have h4 := name_free10 (okEn_bd h).2.2.1
  simp [lineBody, h1, h2, h3, h4]
theorem body_line {st : Int} {e : En} (h : okEn e = true) (h0 : 0 ≤ st) (h1 : st ≤ 65518) : lineF (asBytes (lineBody st e)) = some (e, st) := by
  have hb := okEn_bd h
  have c1 := (itoa_chars e.day).1
  have c2 := (itoa_chars e.val).1
  have c3 := (itoa_chars st).1
  have c4 := (name_free hb.2.2.1).1
  have hs : splitS 32 (asBytes (lineBody st e)) = [asBytes (itoa e.day), e.what, asBytes (itoa e.val), asBytes (itoa st)] := by
    have := splitS_data (c := 32) (s := asBytes (lineBody st e)) (l := [itoa e.day, e.what.data.toList, itoa e.val, itoa st]) (by
      rw [data_asBytes, lineBody, splitL_hit c1, splitL_hit c4, splitL_hit c2, splitL_none c3])
    rw [this]
    simp [asBytes_data]
  have d1 := isDec_itoa (n := e.day) (by omega) (by omega)
  have d2 := isDec_itoa (n := e.val) (by omega) (by omega)
  have d3 := isDec_itoa (n := st) (by omega) (by omega)
  have he : (⟨numS (itoa e.day), e.what, numS (itoa e.val)⟩ : En) = e := by rw [d1.2, d2.2]
  rw [lineF_four hs, wordsF_yes (by rw [data_asBytes]; exact d1.1) (by rw [data_asBytes]; exact d2.1) (by rw [data_asBytes]; exact d3.1) (by simp only [data_asBytes]; rw [he]; exact h)]
  simp only [data_asBytes]
  rw [he, d3.2]
/-- The lines of entries, the stamp ahead of them being st. -/
def restT : List En → Int → List UInt8
  | [], _ => []
  | e :: t, st => (lineB (stampW st (wordsB e)) e).data.toList ++ restT t (stampW st (wordsB e))
def restS : List En → Int → Int
  | [], st => st
  | e :: t, st => restS t (stampW st (wordsB e))
def upFrom (d : Int) : List En → Prop
  | [] => True
  | e :: t => d ≤ e.day ∧ upFrom e.day t
theorem dayR_snoc (l : List En) (e : En) : dayR (l ++ [e]) = e.day := by simp [dayR]
theorem restT_go : ∀ (l : List En) (r : LogR), (∀ x ∈ l, okEn x = true) → upFrom (dayR r.list) l → logGo (splitS 10 (asBytes (restT l r.stamp))) r = ⟨r.list ++ l, restS l r.stamp, r.at_ + (restT l r.stamp).length⟩
  | [], r, _, _ => by
    have : (10 : UInt8) ∉ (asBytes (restT [] r.stamp)).data.toList := by simp [restT, data_asBytes]
    rw [logGo_miss this]
    simp [restT, restS]
  | e :: t, r, hok, hup => by
    have he := hok e (by simp)
    have hb := stampW_bd r.stamp (wordsB e)
    obtain ⟨hd, hup2⟩ := hup
    have hdata : (asBytes (restT (e :: t) r.stamp)).data.toList = (asBytes (lineBody (stampW r.stamp (wordsB e)) e)).data.toList ++ 10 :: restT t (stampW r.stamp (wordsB e)) := by
      rw [data_asBytes, data_asBytes, restT, lineB_body]
      simp
    have hfree : (10 : UInt8) ∉ (asBytes (lineBody (stampW r.stamp (wordsB e)) e)).data.toList := by rw [data_asBytes]; exact body_free he
    have hst := stepF_yes (r := r) (body_line he hb.1 hb.2) hd rfl
    rw [logGo_cut hdata hfree, hst]
    simp only
    have ih := restT_go t ⟨r.list ++ [e], stampW r.stamp (wordsB e), r.at_ + (asBytes (lineBody (stampW r.stamp (wordsB e)) e)).size + 1⟩ (fun x hx => hok x (by simp [hx])) (by rw [dayR_snoc]; exact hup2)
    rw [ih]
    simp only [restS, restT, asBytes_size, List.length_append, lineB_body, List.length_singleton]
    congr 1
    · simp
    · omega
theorem logTo_rest (l : List En) : ∀ k, k ≤ l.length → (logTo l k).data.toList ++ restT (l.drop k) (stampAt l k) = restT l 0
  | 0, _ => by simp [logTo, stampAt]
  | k + 1, hk => by
    have ih := logTo_rest l k (by omega)
    have he : l[k]? = some l[k] := List.getElem?_eq_getElem (by omega)
    rw [← ih, List.drop_eq_getElem_cons (by omega : k < l.length), restT, ← stampAt_step he, logTo_step he, data_app, List.append_assoc]
theorem logTo_all (l : List En) : (logTo l l.length).data.toList = restT l 0 := by
  have h := logTo_rest l l.length (Nat.le_refl _)
  rw [List.drop_length] at h
  simpa [restT] using h
theorem restS_at (l : List En) : ∀ k, k ≤ l.length → restS (l.drop k) (stampAt l k) = restS l 0
  | 0, _ => by simp [stampAt]
  | k + 1, hk => by
    have ih := restS_at l k (by omega)
    have he : l[k]? = some l[k] := List.getElem?_eq_getElem (by omega)
    rw [← ih, List.drop_eq_getElem_cons (by omega : k < l.length), restS, ← stampAt_step he]
theorem upFrom_of : ∀ {l : List En} {d : Int}, daysUp l = true → (∀ x, l.head? = some x → d ≤ x.day) → upFrom d l
  | [], _, _, _ => trivial
  | [e], d, _, h => ⟨h e rfl, trivial⟩
  | e :: e2 :: t, d, hu, h => by
    simp only [daysUp, Bool.and_eq_true, decide_eq_true_eq] at hu
    exact ⟨h e rfl, upFrom_of hu.2 (fun x hx => by simp at hx; subst hx; exact hu.1)⟩
/-- The log of valid entries in order reads as those entries, whole. -/
theorem logR_logTo {l : List En} (hok : ∀ x ∈ l, okEn x = true) (hd : daysUp l = true) : logR (logTo l l.length) = ⟨l, stampAt l l.length, (logTo l l.length).size⟩ := by
  have h1 : logTo l l.length = asBytes (restT l 0) := by rw [← logTo_all, asBytes_data]
  have hup : upFrom (dayR ([] : List En)) l := upFrom_of hd (fun x hx => by
    rw [dayR_nil]
    exact (okEn_bd (hok x (List.mem_of_mem_head? hx))).1)
  have h2 := restT_go l ⟨[], 0, 0⟩ hok hup
  have h3 := restS_at l l.length (Nat.le_refl _)
  rw [List.drop_length] at h3
  unfold logR
  rw [h1, h2, asBytes_size]
  simp only [List.nil_append, Nat.zero_add]
  rw [← h3]
  rfl
end Go.Proofs.YtjmlcobbjpmjpaaDoor
