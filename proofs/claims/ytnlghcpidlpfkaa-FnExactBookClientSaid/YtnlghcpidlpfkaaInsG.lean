/- A slice of the call's own made longer by so many zero values, where there is no room. -/
import Derived.Test.YtnlghcpidlpfkaaIns
import Derived.Lib.AppendZerosOnto
set_option linter.unusedVariables false
namespace Go.Proofs.Ytnlghcpidlpfkaa
open Go.RowKit

theorem wpList_growZeros {P : Program} {w : World} {ops : Array Oper} {rest : List Oper} {o : Oper} {a : Act} {Q : Exit → Act → World → Prop} (hgd : o.guard = none) (s x : Operand) (t tn : TypeId)
    (ho : o.op = .call { callee := .builtin .append, args := #[s, x], argTypes := #[t, tn] })
    (e : TypeId) (zv : Value) (size bytes : Nat) (ht : P.underlying t = some (.slice e)) (htn : P.underlying tn = some (.int .i64)) (hinfo : (P.info? e).map (fun i => (i.zero, i.size, i.bytes)) = some (some zv, size, bytes)) (hzs : zv.cells.size = size) (hsz : 0 < size) (hb : bytes ≤ 1000)
    (g i c : Nat) (hs : a.eval s = .slice (some ⟨g, 0, none⟩) i c) (k : Nat) (q : Int) (hx : a.eval x = .int .i64 q) (hq : q = (k : Int)) (hk : 0 < k) (hroom : c < i + k) (hsmall : i + k ≤ 10000000) (m : Nat) (hm : i + k = m)
    (olds : List Value) (hol : olds.length = i * size) (hold : ∀ j v, olds[j]? = some v → w.cell? ⟨g, j, none⟩ = some v)
    (h : ∀ w' G row, m ≤ G → G ≤ 9223372036854775807 → G ≤ maxLen → Blk w' w.heap.size e (List.toArray row) → row.take (i * size) = olds → row.length = G * size → Below w.heap.size w w' → w'.heap.size = w.heap.size + 1 → wpList P ops Q rest (a.put o.dst (.slice (some ⟨w.heap.size, 0, none⟩) m G)) w') : wpList P ops Q (o :: rest) a w := by
  subst hq
  subst hm
  obtain ⟨i0, hi, hz, hsize, hby⟩ := info_parts hinfo
  have hf : (Builtin.firstCells i0.size i (.slice (some ⟨g, 0, none⟩) i c)).run P w.drew = .ok olds.toArray w.drew := by
    rw [hsize]
    refine run_firstCells_some w.drew size i ⟨g, 0, none⟩ i c olds hol (fun j v hj => ?_)
    rw [add_plain, Nat.zero_add]
    exact hold j v hj
  have hbig : (i + k) * bytes ≤ 140737488355328 := by
    calc (i + k) * bytes ≤ 10000000 * 1000 := Nat.mul_le_mul hsmall hb
      _ ≤ 140737488355328 := by decide
  have hr : ∀ ty, _ := fun ty => Lib.run_append_grow_zeros w t tn ty e i0 zv .i64 .i64 ht htn hi hz (some ⟨g, 0, none⟩) i c olds hf k hk (by omega) hroom (by omega) (by
    rw [hby]
    calc k * bytes ≤ 10000000 * 1000 := Nat.mul_le_mul (by omega) hb
      _ ≤ 281474976710656 := by decide) (by rw [hby]; exact growslice_fits hroom hbig)
  refine Lib.wpList_append_run w hgd s x t tn ho _ _ hs hx _ _ (hr _) ?_
  have hge := grownCap_ge w (i + k) c e
  have hle := grownCap_le_maxLen w (i + k) c e (by unfold maxLen; omega)
  refine h _ _ (olds ++ (Builtin.zeroCells zv.cells k).toList ++ (Builtin.zeroCells zv.cells (grownCap w (i + k) c e - (i + k))).toList) hge (by unfold maxLen at hle; omega) hle ?_ ?_ ?_ ?_ ?_
  · have := Blk.new w.drew e (olds.toArray ++ Builtin.zeroCells zv.cells k ++ Builtin.zeroCells zv.cells (grownCap w (i + k) c e - (i + k)))
    have e9 : (olds ++ (Builtin.zeroCells zv.cells k).toList ++ (Builtin.zeroCells zv.cells (grownCap w (i + k) c e - (i + k))).toList).toArray = olds.toArray ++ Builtin.zeroCells zv.cells k ++ Builtin.zeroCells zv.cells (grownCap w (i + k) c e - (i + k)) := by
      apply Array.ext'
      simp only [Array.toList_append]
    rw [e9]
    exact this
  · rw [List.append_assoc, ← hol, List.take_left]
  · simp only [List.length_append, Array.length_toList, size_zeroCells, hzs, hol]
    rw [← Nat.add_mul, ← Nat.add_mul]
    congr 1
    omega
  · exact ⟨rfl, rfl, rfl, by simp, fun q hq => Below.heap_alloc w.drew _ q hq⟩
  · simp
end Go.Proofs.Ytnlghcpidlpfkaa
