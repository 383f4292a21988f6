/- Clients: a client added: the plain law. -/
import Derived.Test.YtnlghcpidlpfkaaClN
import Derived.Test.YtnlghcpidlpfkaaIns
set_option linter.unusedVariables false
namespace Go.Proofs.Ytnlghcpidlpfkaa
open Go.RowKit

def cutCl (l : List Cl) (s : ByteArray) : Nat := l.findIdx (fun y => !sless y.name s)
theorem cutCl_eq {l : List Cl} {s : ByteArray} {i : Nat} (h : PlaceAt l s i) : cutCl l s = i := by
  have hle : cutCl l s ≤ l.length := List.findIdx_le_length
  apply Nat.le_antisymm
  · rcases Nat.lt_or_ge i (cutCl l s) with hlt | hge
    · have hi : i < l.length := by omega
      have h1 := List.not_of_lt_findIdx hlt
      have h2 := (h.2 i l[i] (List.getElem?_eq_getElem hi)).1 (by simpa using h1)
      omega
    · exact hge
  · rcases Nat.lt_or_ge (cutCl l s) i with hlt | hge
    · have hc : cutCl l s < l.length := by have := h.1; omega
      have h1 : (!sless l[cutCl l s].name s) = true := List.findIdx_getElem (w := hc)
      have h2 := (h.2 _ l[cutCl l s] (List.getElem?_eq_getElem hc)).2 hlt
      rw [h2] at h1
      cases h1
    · exact hge
def insAt {α : Type} (l : List α) (k : Nat) (x : α) : List α := l.take k ++ x :: l.drop k
theorem insAt_length {α : Type} (l : List α) (k : Nat) (x : α) : (insAt l k x).length = l.length + 1 := by
  simp [insAt]
  omega
theorem cls_app (a b : List Cl) : cls (a ++ b) = cls a ++ cls b := by simp [cls]
theorem cls_take (l : List Cl) (k : Nat) : (cls l).take (k * 5) = cls (l.take k) := by
  have h1 : cls l = cls (l.take k) ++ cls (l.drop k) := by rw [← cls_app, List.take_append_drop]
  rcases Nat.lt_or_ge l.length k with h | h
  · rw [List.take_of_length_le (show l.length ≤ k by omega), List.take_of_length_le (show (cls l).length ≤ k * 5 by rw [cls_length]; omega)]
  · have h2 : (cls (l.take k)).length = k * 5 := by rw [cls_length, List.length_take, Nat.min_eq_left h]
    rw [h1, ← h2, List.take_left]
theorem cls_drop (l : List Cl) (k : Nat) : (cls l).drop (k * 5) = cls (l.drop k) := by
  have h1 : cls l = cls (l.take k) ++ cls (l.drop k) := by rw [← cls_app, List.take_append_drop]
  rcases Nat.lt_or_ge l.length k with h | h
  · rw [List.drop_eq_nil_of_le (show l.length ≤ k by omega), List.drop_eq_nil_of_le (show (cls l).length ≤ k * 5 by rw [cls_length]; omega)]
    rfl
  · have h2 : (cls (l.take k)).length = k * 5 := by rw [cls_length, List.length_take, Nat.min_eq_left h]
    rw [h1, ← h2, List.drop_left]
theorem cls_ins (l : List Cl) (k : Nat) (x : Cl) : cls (insAt l k x) = (cls l).take (k * 5) ++ cellsCl x ++ (cls l).drop (k * 5) := by
  rw [insAt, cls_take, cls_drop, cls_app, List.append_assoc]
  rfl

def addF (l : List Cl) (x : Cl) : List Cl × Int :=
  if okCls l = true then (if okCl x = true then (if placeOf l x.name < 0 then (if 30 ≤ l.length then ([], 5) else (insAt l (cutCl l x.name) x, 0)) else ([], 4)) else ([], 2)) else ([], 1)
theorem addF_bad {l : List Cl} {x : Cl} (h : okCls l = false) : addF l x = ([], 1) := by simp [addF, h]
theorem addF_range {l : List Cl} {x : Cl} (h : okCls l = true) (hx : okCl x = false) : addF l x = ([], 2) := by simp [addF, h, hx]
theorem addF_known {l : List Cl} {x : Cl} (h : okCls l = true) (hx : okCl x = true) (hp : ¬ placeOf l x.name < 0) : addF l x = ([], 4) := by simp [addF, h, hx, hp]
theorem addF_full {l : List Cl} {x : Cl} (h : okCls l = true) (hx : okCl x = true) (hp : placeOf l x.name < 0) (hl : 30 ≤ l.length) : addF l x = ([], 5) := by simp [addF, h, hx, hp, hl]
theorem addF_ok {l : List Cl} {x : Cl} (h : okCls l = true) (hx : okCl x = true) (hp : placeOf l x.name < 0) (hl : ¬ 30 ≤ l.length) {i : Nat} (hi : PlaceAt l x.name i) : addF l x = (insAt l i x, 0) := by
  have := cutCl_eq hi
  unfold addF
  rw [if_pos h, if_pos hx, if_pos hp, if_neg hl, this]
theorem addF_len (l : List Cl) (x : Cl) : (addF l x).1.length ≤ 31 := by
  unfold addF
  split
  · split
    · split
      · split
        · simp
        · simp only [insAt_length]; omega
      · simp
    · simp
  · simp
theorem cntAddClient_len {l : List Cl} {x : Cl} {m : Nat} (h : (cls (addF l x).1).length = m * 5) : m ≤ 1048576 := by
  rw [cls_length] at h
  have := addF_len l x
  omega
/-- What comes ahead of a place and what does not: from the end downward. -/
theorem placeAt_mk {l : List Cl} {s : ByteArray} {k : Nat} (hok : okCls l = true) (hk : k ≤ l.length) (hhi : ∀ (j : Nat) (y : Cl), k ≤ j → l[j]? = some y → sless y.name s = false) (hlo : k = 0 ∨ ∃ y, l[k - 1]? = some y ∧ sless y.name s = true) : PlaceAt l s k := by
  refine ⟨hk, fun j y hy => ⟨fun hs => ?_, fun hj => ?_⟩⟩
  · rcases Nat.lt_or_ge j k with h | h
    · exact h
    · rw [hhi j y h hy] at hs; cases hs
  · rcases hlo with h0 | ⟨z, hz, hs⟩
    · omega
    · rcases Nat.lt_or_ge j (k - 1) with h | h
      · obtain ⟨d, hd⟩ : ∃ d, k - 1 = j + 1 + d := ⟨k - 1 - j - 1, by omega⟩
        rw [hd] at hz
        exact sless_trans (okCls_up hok hy d z hz) hs
      · obtain rfl : j = k - 1 := by omega
        rw [hz] at hy; injection hy with hy; subst hy; exact hs
theorem sless_total {a b : ByteArray} (h1 : sless a b = false) (h2 : sless b a = false) : a.toList = b.toList := by
  simp only [sless, bytesLt, decide_eq_false_iff_not] at *
  exact List.le_antisymm (by simpa using h2) (by simpa using h1)
theorem sless_asymm {a b : ByteArray} (h : sless a b = true) : sless b a = false := by
  rcases h2 : sless b a with _ | _
  · rfl
  · have := sless_ne (sless_trans h h2)
    simp at this
/-- A name that no client has comes ahead of a client's, or behind. -/
theorem lost_less {l : List Cl} {s : ByteArray} (hp : placeOf l s < 0) {j : Nat} {y : Cl} (hy : l[j]? = some y) (h : sless s y.name = false) : sless y.name s = true := by
  rcases h2 : sless y.name s with _ | _
  · exfalso
    have he := sless_total h2 h
    have := idxI_nonneg (hit s) l
    rw [any_of hy (by simp [hit, he])] at this
    have := of_decide_eq_true this
    unfold placeOf at hp
    omega
  · rfl
end Go.Proofs.Ytnlghcpidlpfkaa
