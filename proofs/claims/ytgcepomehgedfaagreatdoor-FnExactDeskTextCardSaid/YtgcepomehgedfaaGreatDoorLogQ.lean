/- One step of the reading of a log: the plain law. -/
import Derived.Test.YtgcepomehgedfaaGreatDoorLogP
set_option linter.unusedVariables false
set_option linter.unusedSimpArgs false
namespace Go.Proofs.YtgcepomehgedfaaGreatDoor
open Go.RowKit Go.Lib

def stepS (s : ByteArray) (r : LogR) : Option LogR := match splitS 10 (s.extract r.at_ s.size) with
  | l :: _ :: _ => stepF r l
  | _ => none
theorem stepS_miss {s : ByteArray} {r : LogR} (h : (10 : UInt8) ∉ (s.extract r.at_ s.size).data.toList) : stepS s r = none := by
  unfold stepS; rw [split_end h]
theorem stepS_hit {s : ByteArray} {r : LogR} {k : Nat} (hn : (10 : UInt8) ∉ (s.extract r.at_ k).data.toList) (hj : r.at_ ≤ k) (hk : k < s.size) (hc : s[k] = 10) : stepS s r = stepF r (s.extract r.at_ k) := by
  unfold stepS
  rw [split_step hn hj hk hc]
  rcases h : splitS 10 (s.extract (k + 1) s.size) with _ | ⟨m, t⟩
  · exact absurd h (splitS_ne _ _)
  · rfl
theorem stepS_go {s : ByteArray} {r : LogR} (hat : r.at_ ≤ s.size) : logGo (splitS 10 (s.extract r.at_ s.size)) r = match stepS s r with
    | none => r
    | some r' => logGo (splitS 10 (s.extract r'.at_ s.size)) r' := by
  rcases index_one 10 (s.extract r.at_ s.size).data.toList with ⟨_, hno⟩ | ⟨al, rl, he, hna, _⟩
  · rw [stepS_miss hno, logGo_miss hno]
  · have he' : (s.extract r.at_ s.size).data.toList = (asBytes al).data.toList ++ 10 :: rl := by rw [data_asBytes]; exact he
    have hn' : (10 : UInt8) ∉ (asBytes al).data.toList := by rw [data_asBytes]; exact hna
    have h1 := logGo_cut (r := r) he' hn'
    have h2 := rest_cut hat he'
    have h3 : stepS s r = stepF r (asBytes al) := by
      unfold stepS splitS
      rw [he, splitL_hit hna, List.map_cons]
      rcases h : List.map asBytes (splitL 10 rl) with _ | ⟨m, t⟩
      · exact absurd (by simpa using h) (splitL_ne _ _)
      · rfl
    rw [h1, h3]
    rcases h4 : stepF r (asBytes al) with _ | r'
    · rfl
    · have h5 : r'.at_ = r.at_ + (asBytes al).size + 1 := by
        unfold stepF at h4
        split at h4
        · cases h4
        · split at h4
          · injection h4 with h4; subst h4; rfl
          · cases h4
      simp only
      rw [h2.1, h5]
theorem stepS_some {s : ByteArray} {r r' : LogR} (hok : r.ok) (hat : r.at_ ≤ s.size) (h : stepS s r = some r') : r'.ok ∧ r'.at_ ≤ s.size ∧ r.at_ < r'.at_ := by
  rcases index_one 10 (s.extract r.at_ s.size).data.toList with ⟨_, hno⟩ | ⟨al, rl, he, hna, _⟩
  · rw [stepS_miss hno] at h; cases h
  · have he' : (s.extract r.at_ s.size).data.toList = (asBytes al).data.toList ++ 10 :: rl := by rw [data_asBytes]; exact he
    have h2 := rest_cut hat he'
    have h3 : stepS s r = stepF r (asBytes al) := by
      unfold stepS splitS
      rw [he, splitL_hit hna, List.map_cons]
      rcases h : List.map asBytes (splitL 10 rl) with _ | ⟨m, t⟩
      · exact absurd (by simpa using h) (splitL_ne _ _)
      · rfl
    rw [h3] at h
    obtain ⟨k1, k2, _⟩ := LogR.ok_step hok h
    exact ⟨k1, by omega, by omega⟩
theorem stepF_four_day {r : LogR} {line a b c d : ByteArray} (h : splitS 32 line = [a, b, c, d]) (hd : ¬ (dayR r.list ≤ numS a.data.toList)) : stepF r line = none := by
  rcases hl : lineF line with _ | ⟨e, st⟩
  · exact stepF_none hl
  · have he : e.day = numS a.data.toList := by
      rw [lineF_four h] at hl
      unfold wordsF at hl
      split at hl
      · injection hl with hl; injection hl with hl _; subst hl; rfl
      · cases hl
    exact stepF_day hl (by rw [he]; exact hd)
theorem stepF_four_text {r : LogR} {line a b c d : ByteArray} (h : splitS 32 line = [a, b, c, d]) (h1 : isDec a.data.toList = true) (h2 : isDec c.data.toList = true)
    (ht : lineB (stampW r.stamp (wordsB ⟨numS a.data.toList, b, numS c.data.toList⟩)) ⟨numS a.data.toList, b, numS c.data.toList⟩ ≠ line ++ ⟨#[10]⟩) : stepF r line = none := by
  have hb := stampW_bd r.stamp (wordsB ⟨numS a.data.toList, b, numS c.data.toList⟩)
  have hx := fun q => ht ((line_text h h1 h2 hb.1 hb.2).2 q)
  rcases hl : lineF line with _ | ⟨e, st⟩
  · exact stepF_none hl
  · rw [lineF_four h] at hl
    unfold wordsF at hl
    split at hl
    · rename_i hw
      injection hl with hl; injection hl with hl hl'
      simp only [Bool.and_eq_true] at hw
      have hl2 : lineF line = some (e, st) := by rw [lineF_four h, wordsF_yes hw.1.1.1 hw.1.1.2 hw.1.2 hw.2, hl, hl']
      refine stepF_stamp hl2 (fun hs => hx ⟨hw.1.2, ?_⟩)
      rw [hl', ← hs, hl]
    · cases hl
theorem stepF_four_yes {r : LogR} {line a b c d : ByteArray} (h : splitS 32 line = [a, b, c, d]) (h1 : isDec a.data.toList = true) (h2 : isDec c.data.toList = true) (h4 : okEn ⟨numS a.data.toList, b, numS c.data.toList⟩ = true) (hd : dayR r.list ≤ numS a.data.toList)
    (ht : lineB (stampW r.stamp (wordsB ⟨numS a.data.toList, b, numS c.data.toList⟩)) ⟨numS a.data.toList, b, numS c.data.toList⟩ = line ++ ⟨#[10]⟩) :
    stepF r line = some ⟨r.list ++ [⟨numS a.data.toList, b, numS c.data.toList⟩], stampW r.stamp (wordsB ⟨numS a.data.toList, b, numS c.data.toList⟩), r.at_ + line.size + 1⟩ := by
  have hb := stampW_bd r.stamp (wordsB ⟨numS a.data.toList, b, numS c.data.toList⟩)
  obtain ⟨h5, h6⟩ := (line_text h h1 h2 hb.1 hb.2).1 ht
  have hl : lineF line = some (⟨numS a.data.toList, b, numS c.data.toList⟩, numS d.data.toList) := by rw [lineF_four h, wordsF_yes h1 h2 h5 h4]
  have := stepF_yes (r := r) hl hd h6.symm
  rw [this, h6]
theorem stepF_four_no {r : LogR} {line a b c d : ByteArray} (h : splitS 32 line = [a, b, c, d]) (hw : wordsF a b c d = none) : stepF r line = none := stepF_none (by rw [lineF_four h, hw])
theorem stepF_other {r : LogR} {line : ByteArray} (h : (splitS 32 line).length ≠ 4) : stepF r line = none := stepF_none (lineF_other h)
theorem extract_next {s : ByteArray} {j k : Nat} (hj : j ≤ k) (hk : k < s.size) (hc : s[k] = 10) : s.extract j (k + 1) = s.extract j k ++ ⟨#[10]⟩ := by
  apply bytes_ext
  have hl := data_len s
  rw [data_app, piece_data, piece_data, show k + 1 - j = (k - j) + 1 by omega, List.take_succ_eq_append_getElem (by rw [List.length_drop]; omega)]
  congr 1
  have := byte_at s k hk
  rw [List.getElem?_eq_getElem (by omega)] at this
  injection this with this
  rw [List.getElem_drop]
  have e : j + (k - j) = k := by omega
  simp only [e, this, hc]
end Go.Proofs.YtgcepomehgedfaaGreatDoor
