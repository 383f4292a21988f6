/- A string appended to a slice of bytes of the call's own. -/
import Derived.Test.YtjmlcobbjpmjpaaDoorDecW
import Derived.Lib.AppendStr
set_option linter.unusedVariables false
namespace Go.Proofs.YtjmlcobbjpmjpaaDoor
open Go.RowKit Go.Lib

theorem strCells_bytesV (s : ByteArray) : strCells s = bytesV s.data.toList := by simp [strCells, bytesV]
theorem bytesV_app (a b : List UInt8) : bytesV a ++ bytesV b = bytesV (a ++ b) := by simp [bytesV]
theorem wpList_accStr {P : Program} {ops : Array Oper} {rest : List Oper} {o : Oper} {a : Act} {Q : Exit → Act → World → Prop} (hgd : o.guard = none) (sl x : Operand) (t u : TypeId)
    (ho : o.op = .call { callee := .builtin .append, args := #[sl, x], argTypes := #[t, u] })
    (e : TypeId) (ht : P.underlying t = some (.slice e)) (hu : P.underlying u = some .string) (hinfo : (P.info? e).map (fun i => (i.zero, i.size, i.bytes)) = some (some (.int .u8 0), 1, 1))
    {z : Nat} {w wr : World} {A : Option Addr} {m c : Nat} {xs : List UInt8} (h : Acc z z e 1 w wr A m c (bytesV xs)) (hzw : z ≤ w.heap.size) (hs : a.eval sl = .slice A m c)
    (s : ByteArray) (hx : a.eval x = .string s) (hm : m + s.size < 100000000)
    (K : ∀ A' c' w1, Acc z z e 1 w w1 A' (m + s.size) c' (bytesV (xs ++ s.data.toList)) → wpList P ops Q rest (a.put o.dst (.slice A' (m + s.size) c')) w1) : wpList P ops Q (o :: rest) a wr := by
  obtain ⟨i, hi, hz, hsize, hby⟩ := info_parts hinfo
  have hzr : z ≤ wr.heap.size := Nat.le_trans hzw h.size
  refine wpList_append_own_string (P := P) wr hgd sl x t u ho z e i ht hu hi hz hsize hby _ m (bytesV xs) hs (h.sl (lo := z) (Nat.le_refl _) (Nat.le_refl _)).1 s hx (by unfold maxLen; omega) (by omega) hzr ?_
  intro v' w' hown hgrow _
  rw [strCells_bytesV, bytesV_app] at hown
  have hrest : ∀ q, q < z → q ≠ z → w'.heap[q]? = w.heap[q]? := fun q hq hne => by
    rw [hgrow.block q (by omega) (fun ee => ?_)]
    · exact h.block q hq hne
    · cases A with
      | none => simp [Value.ownBlock] at ee
      | some ad =>
        simp [Value.ownBlock] at ee
        rcases h.at_ ad rfl with e1 | e1 <;> omega
  have hsz' : w.heap.size ≤ w'.heap.size := Nat.le_trans h.size hgrow.size
  have hrow := own_base0 hown
  rcases hown.2 with ⟨hv, hn⟩ | ⟨g, cap, cur, hv, hb', hgg, hrest'⟩
  · subst hv
    rw [show (Value.slice none 0 0) = .slice none (m + s.size) 0 from by rw [hn]]
    exact K _ _ _ ⟨by rw [hn] at hrow ⊢; exact hrow, (fun ad had => by cases had), by have := hgrow.os; rw [this]; exact h.os, by have := hgrow.tape; rw [this]; exact h.tape, by have := hgrow.output; rw [this]; exact h.output, hsz', hrest⟩
  · subst hv
    exact K _ _ _ ⟨hrow, fun ad had => by injection had with had; subst had; exact .inr hb', by have := hgrow.os; rw [this]; exact h.os, by have := hgrow.tape; rw [this]; exact h.tape, by have := hgrow.output; rw [this]; exact h.output, hsz', hrest⟩
end Go.Proofs.YtjmlcobbjpmjpaaDoor
