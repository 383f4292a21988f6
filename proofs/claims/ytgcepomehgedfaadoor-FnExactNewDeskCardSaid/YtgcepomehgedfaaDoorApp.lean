/- A whole slice appended to a slice of the call's own. -/
import Derived.Test.YtgcepomehgedfaaDoorAcc
set_option linter.unusedVariables false
namespace Go.Proofs.YtgcepomehgedfaaDoor
open Go.RowKit

theorem Sl.nilc {w : World} {lo hi : Nat} {t : TypeId} {size : Nat} {A : Option Addr} {n c : Nat} {xs : List Value} (h : Sl w lo hi t size A n c xs) : A = none → n = 0 ∧ c = 0 := by
  intro hA
  rcases h.form with ⟨_, h1, h2⟩ | ⟨g, cur, h1, _⟩
  · exact ⟨h1, h2⟩
  · rw [hA] at h1; cases h1
theorem add_plain (b off j : Nat) : ((⟨b, off, none⟩ : Addr).add j) = ⟨b, off + j, none⟩ := by unfold Addr.add; split <;> simp_all
theorem wpList_accMany {P : Program} {ops : Array Oper} {rest : List Oper} {o : Oper} {a : Act} {Q : Exit → Act → World → Prop} (hgd : o.guard = none) (s x : Operand) (t : TypeId)
    (ho : o.op = .call { callee := .builtin .append, args := #[s, x], argTypes := #[t, t] })
    (e : TypeId) (zv : Value) (size bytes : Nat) (ht : P.underlying t = some (.slice e)) (hinfo : (P.info? e).map (fun i => (i.zero, i.size, i.bytes)) = some (some zv, size, bytes)) (hzs : zv.cells.size = size) (hsz : 0 < size) (hb : bytes ≤ 1000)
    {b0 z : Nat} {w wr : World} {A : Option Addr} {m c : Nat} {xs : List Value} (h : Acc b0 z e size w wr A m c xs) (hzw : z ≤ w.heap.size) (hs : a.eval s = .slice A m c)
    (b off k d : Nat) (news : List Value) (hx : a.eval x = .slice (some ⟨b, off, none⟩) k d) (hl : news.length = k * size) (hc : ∀ j u, news[j]? = some u → wr.cell? ⟨b, off + j, none⟩ = some u) (h1 : ∀ u ∈ news, u.oneCell' = true) (hm : m + k < 100000000)
    (K : ∀ A' c' w1, Acc b0 z e size w w1 A' (m + k) c' (xs ++ news) → wpList P ops Q rest (a.put o.dst (.slice A' (m + k) c')) w1) : wpList P ops Q (o :: rest) a wr := by
  obtain ⟨i, hi, hz, hsize, hby⟩ := info_parts hinfo
  refine wpList_append_own_at _ hgd s x t ho 0 e i zv size bytes ht hi hz hsize hby hzs hsz _ _ _ hs h.own ⟨b, off, none⟩ k d news hx hl (fun j u hu => by rw [add_plain]; exact hc j u hu) h1 (by unfold maxLen; omega) ?_ (Nat.zero_le _) ?_
  · calc (m + k) * bytes ≤ 100000000 * 1000 := Nat.mul_le_mul (by omega) hb
      _ ≤ 140737488355328 := by decide
  · intro v' w' hown hgrow _ hat
    have hzr : z ≤ wr.heap.size := Nat.le_trans hzw h.size
    have hrest : ∀ q, q < z → q ≠ b0 → w'.heap[q]? = w.heap[q]? := fun q hq hne => by
      rw [hgrow.block q (by omega) (fun ee => ?_)]
      · exact h.block q hq hne
      · cases A with
        | none => simp [Value.ownBlock] at ee
        | some ad =>
          simp [Value.ownBlock] at ee
          rcases h.at_ ad rfl with e1 | e1 <;> omega
    have hsz' : w.heap.size ≤ w'.heap.size := Nat.le_trans h.size hgrow.size
    rcases hown.2 with ⟨hv, hn⟩ | ⟨g, cap, cur, hv, hb', hgg, hrest'⟩
    · subst hv
      rw [show (Value.slice none 0 0) = .slice none (m + k) 0 from by rw [hn]]
      exact K _ _ _ ⟨by rw [hn] at hown ⊢; exact hown, (fun ad had => by cases had), by have := hgrow.os; rw [this]; exact h.os, by have := hgrow.tape; rw [this]; exact h.tape, by have := hgrow.output; rw [this]; exact h.output, hsz', hrest⟩
    · have hat' : g = b0 ∨ z ≤ g := by
        subst hv
        rcases hat with e1 | e1
        · cases A with
          | none => simp [Value.ownBlock] at e1
          | some ad =>
            simp [Value.ownBlock] at e1
            rcases h.at_ ad rfl with e2 | e2 <;> omega
        · simp [Value.ownBlock] at e1
          omega
      subst hv
      exact K _ _ _ ⟨hown, fun ad had => by injection had with had; subst had; exact hat', by have := hgrow.os; rw [this]; exact h.os, by have := hgrow.tape; rw [this]; exact h.tape, by have := hgrow.output; rw [this]; exact h.output, hsz', hrest⟩
end Go.Proofs.YtgcepomehgedfaaDoor
