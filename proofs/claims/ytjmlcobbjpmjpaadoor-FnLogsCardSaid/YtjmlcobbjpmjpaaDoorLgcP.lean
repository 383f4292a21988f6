/- A log step by step, and a log that is cut: the plain law. -/
import Derived.Test.YtjmlcobbjpmjpaaDoorLogC
import Derived.Test.YtjmlcobbjpmjpaaDoorLogA
import Derived.Test.YtjmlcobbjpmjpaaDoorLogM
import Derived.Test.YtjmlcobbjpmjpaaDoorEnDs
set_option linter.unusedVariables false
set_option linter.unusedSimpArgs false
namespace Go.Proofs.YtjmlcobbjpmjpaaDoor
open Go.RowKit Go.Lib

theorem bytes_ext2 {a b : ByteArray} (h : a.data.toList = b.data.toList) : a = b := by rw [← asBytes_data a, ← asBytes_data b, h]
theorem daysUp_at {l : List En} (h : daysUp l = true) {k : Nat} {a b : En} (ha : l[k]? = some a) (hb : l[k + 1]? = some b) : a.day ≤ b.day := by
  rcases Int.lt_or_le b.day a.day with h1 | h1
  · rw [daysUp_bad ha hb h1] at h; cases h
  · exact h1
theorem daysUp_take {l : List En} (h : daysUp l = true) (j : Nat) : daysUp (l.take j) = true := daysUp_ok fun k a b ha hb => by
  rw [List.getElem?_take] at ha hb
  split at ha
  · split at hb
    · exact daysUp_at h ha hb
    · cases hb
  · cases ha
theorem dayR_take {l : List En} (h : daysUp l = true) {k : Nat} {e : En} (he : l[k]? = some e) (hok : okEn e = true) : dayR (l.take k) ≤ e.day := by
  have hk := (List.getElem?_eq_some_iff.1 he).1
  rcases k with _ | j
  · simp [dayR]; exact (okEn_bd hok).1
  · have ha : l[j]? = some (l[j]'(by omega)) := List.getElem?_eq_getElem (by omega)
    have : dayR (l.take (j + 1)) = (l[j]'(by omega)).day := by
      rw [List.take_add_one, ha]; exact dayR_app _ _
    rw [this]
    exact daysUp_at h ha he
theorem stampAt_take (l : List En) (j : Nat) : ∀ k, k ≤ j → stampAt (l.take j) k = stampAt l k
  | 0, _ => rfl
  | k + 1, h => by
    have ih := stampAt_take l j k (by omega)
    simp only [stampAt]
    rw [List.getElem?_take, if_pos (by omega), ih]
theorem logTo_take (l : List En) (j : Nat) : ∀ k, k ≤ j → logTo (l.take j) k = logTo l k
  | 0, _ => rfl
  | k + 1, h => by
    have ih := logTo_take l j k (by omega)
    simp only [logTo]
    rw [List.getElem?_take, if_pos (by omega), ih, stampAt_take l j (k + 1) h]
/-- The log of the first j entries. -/
theorem logR_part {l : List En} (hok : ∀ x ∈ l, okEn x = true) (hd : daysUp l = true) {j : Nat} (hj : j ≤ l.length) : logR (logTo l j) = ⟨l.take j, stampAt l j, (logTo l j).size⟩ := by
  have hlen : (l.take j).length = j := by rw [List.length_take]; omega
  have h := logR_logTo (l := l.take j) (fun x hx => hok x (List.mem_of_mem_take hx)) (daysUp_take hd j)
  rw [hlen, logTo_take l j j (Nat.le_refl _), stampAt_take l j j (Nat.le_refl _)] at h
  exact h
theorem codeF_part {l : List En} (hok : ∀ x ∈ l, okEn x = true) (hd : daysUp l = true) (hl : l.length ≤ 7) {j : Nat} (hj : j ≤ l.length) : codeF (logTo l j) = 0 := by
  have h := logTo_size hok j
  exact codeF_ok (by omega) (by rw [logR_part hok hd hj])
theorem add_step {l : List En} (hok : ∀ x ∈ l, okEn x = true) (hd : daysUp l = true) (hl : l.length ≤ 7) {k : Nat} {e : En} (he : l[k]? = some e) : addEF (logTo l k) e = (logTo l (k + 1), 0) := by
  have hk := (List.getElem?_eq_some_iff.1 he).1
  have heok := hok e (List.mem_of_getElem? he)
  have hsz := logTo_size hok (k + 1)
  have hr := logR_part hok hd (j := k) (by omega)
  have hn : logTo l k ++ lineB (stampW (stampAt l k) (wordsB e)) e = logTo l (k + 1) := by rw [logTo_step he, stampAt_step he]
  rw [addEF_ok (codeF_part hok hd hl (by omega)), hr, addG_ok heok (dayR_take hd he heok) (by simp only; rw [hn]; omega)]
  simp only
  rw [hn]
theorem logTo_pre (l : List En) {k : Nat} (hk : k ≤ l.length) : (logTo l k).size ≤ (logTo l l.length).size ∧ (logTo l l.length).extract 0 (logTo l k).size = logTo l k := by
  have h := logTo_rest l k hk
  rw [← logTo_all l] at h
  have hs := congrArg List.length h
  rw [List.length_append, data_len, data_len] at hs
  refine ⟨by omega, bytes_ext2 ?_⟩
  rw [piece_data, List.drop_zero, Nat.sub_zero, ← h, ← data_len (logTo l k), List.take_left]
/-- A log that is cut reads as a beginning. -/
theorem restT_cut : ∀ (l : List En) (r : LogR) (c : Nat), (∀ x ∈ l, okEn x = true) → upFrom (dayR r.list) l → c ≤ (restT l r.stamp).length →
    ∃ j, j ≤ l.length ∧ (restT (l.take j) r.stamp).length ≤ c ∧ ∃ st, logGo (splitS 10 (asBytes ((restT l r.stamp).take c))) r = ⟨r.list ++ l.take j, st, r.at_ + (restT (l.take j) r.stamp).length⟩
  | [], r, c, _, _, hc => by
    have : (10 : UInt8) ∉ (asBytes ((restT [] r.stamp).take c)).data.toList := by simp [restT, data_asBytes]
    refine ⟨0, Nat.le_refl _, by simp [restT], r.stamp, ?_⟩
    rw [logGo_miss this]
    simp [restT]
  | e :: t, r, c, hok, hup, hc => by
    have he := hok e (by simp)
    have hb := stampW_bd r.stamp (wordsB e)
    obtain ⟨hd, hup2⟩ := hup
    have hfree := body_free (st := stampW r.stamp (wordsB e)) he
    have hrest : restT (e :: t) r.stamp = lineBody (stampW r.stamp (wordsB e)) e ++ 10 :: restT t (stampW r.stamp (wordsB e)) := by
      rw [restT, lineB_body]; simp
    by_cases hlt : c ≤ (lineBody (stampW r.stamp (wordsB e)) e).length
    · have : (10 : UInt8) ∉ (asBytes ((restT (e :: t) r.stamp).take c)).data.toList := by
        rw [data_asBytes, hrest, List.take_append_of_le_length hlt]
        exact fun hm => hfree (List.mem_of_mem_take hm)
      refine ⟨0, by simp, by simp [restT], r.stamp, ?_⟩
      rw [logGo_miss this]
      simp [restT]
    · obtain ⟨c', hc'⟩ : ∃ c', c = (lineBody (stampW r.stamp (wordsB e)) e).length + (c' + 1) := ⟨c - (lineBody (stampW r.stamp (wordsB e)) e).length - 1, by omega⟩
      have hdata : (asBytes ((restT (e :: t) r.stamp).take c)).data.toList = (asBytes (lineBody (stampW r.stamp (wordsB e)) e)).data.toList ++ 10 :: (restT t (stampW r.stamp (wordsB e))).take c' := by
        rw [data_asBytes, data_asBytes, hrest, hc', List.take_length_add_append]
        rfl
      have hst := stepF_yes (r := r) (body_line he hb.1 hb.2) hd rfl
      have hlen : c' ≤ (restT t (stampW r.stamp (wordsB e))).length := by
        rw [hrest, List.length_append, List.length_cons] at hc
        omega
      obtain ⟨j, hj, hjc, st, hg⟩ := restT_cut t ⟨r.list ++ [e], stampW r.stamp (wordsB e), r.at_ + (asBytes (lineBody (stampW r.stamp (wordsB e)) e)).size + 1⟩ c' (fun x hx => hok x (by simp [hx])) (by rw [dayR_snoc]; exact hup2) hlen
      have hpart : restT ((e :: t).take (j + 1)) r.stamp = lineBody (stampW r.stamp (wordsB e)) e ++ 10 :: restT (t.take j) (stampW r.stamp (wordsB e)) := by
        rw [List.take_succ_cons, restT, lineB_body]; simp
      refine ⟨j + 1, by simp; omega, ?_, st, ?_⟩
      · rw [hpart, List.length_append, List.length_cons]
        simp only at hjc
        omega
      · rw [logGo_cut hdata (by rw [data_asBytes]; exact hfree), hst]
        simp only
        rw [hg, hpart, List.take_succ_cons]
        simp only [asBytes_size, List.length_append, List.length_cons, List.append_assoc, List.singleton_append]
        congr 1
        omega
/-- What the law asks of a log that is cut. -/
structure CutAt (l : List En) (c j : Nat) : Prop where
  le : j ≤ l.length
  size : (logTo l j).size ≤ c
  rec_ : recF ((logTo l l.length).extract 0 c) = (logTo l j, (c : Int) - ((logTo l j).size : Int), 0)
  chk : checkF ((logTo l l.length).extract 0 c) = (((logTo l j).size : Int), 0)
  code : codeF (logTo l j) = 0
  list : (codeR (logTo l j)).list = l.take j
theorem cut_at {l : List En} (hok : ∀ x ∈ l, okEn x = true) (hd : daysUp l = true) (hl : l.length ≤ 7) {c : Nat} (hc : c ≤ (logTo l l.length).size) : ∃ j, CutAt l c j := by
  have hup : upFrom (dayR ([] : List En)) l := upFrom_of hd (fun x hx => by
    rw [dayR_nil]
    exact (okEn_bd (hok x (List.mem_of_mem_head? hx))).1)
  have hsz := logTo_size hok l.length
  have hall := logTo_all l
  obtain ⟨j, hj, hjc, st, hg⟩ := restT_cut l ⟨[], 0, 0⟩ c hok hup (by simp only; rw [← hall, data_len]; exact hc)
  simp only [List.nil_append, Nat.zero_add] at hg hjc
  have hjs : (restT (l.take j) 0).length = (logTo l j).size := by
    have h := logTo_all (l.take j)
    rw [show (l.take j).length = j by rw [List.length_take]; omega, logTo_take l j j (Nat.le_refl _)] at h
    rw [← h, data_len]
  rw [hjs] at hg hjc
  have hcut : asBytes ((restT l 0).take c) = (logTo l l.length).extract 0 c := bytes_ext2 (by rw [data_asBytes, piece_data, hall]; simp)
  have hlr : logR ((logTo l l.length).extract 0 c) = ⟨l.take j, st, (logTo l j).size⟩ := by unfold logR; rw [← hcut]; exact hg
  have hcs : ((logTo l l.length).extract 0 c).size = c := by rw [ByteArray.size_extract]; omega
  have hnf : ¬ 4000 < ((logTo l l.length).extract 0 c).size := by rw [hcs]; omega
  have hcode := codeF_part hok hd hl hj
  have hpre := logTo_pre l hj
  refine ⟨j, hj, hjc, ?_, ?_, hcode, ?_⟩
  · rw [recF_ok hnf, hlr, hcs]
    simp only
    congr 1
    apply bytes_ext2
    rw [piece_data, piece_data, List.drop_zero, List.drop_zero, Nat.sub_zero, Nat.sub_zero, List.take_take, Nat.min_eq_left hjc]
    have h2 := congrArg (fun b : ByteArray => b.data.toList) hpre.2
    simp only [piece_data, List.drop_zero, Nat.sub_zero] at h2
    exact h2
  · unfold checkF; rw [if_neg hnf, hlr]
  · rw [codeR_ok hcode, logR_part hok hd hj]
end Go.Proofs.YtjmlcobbjpmjpaaDoor
