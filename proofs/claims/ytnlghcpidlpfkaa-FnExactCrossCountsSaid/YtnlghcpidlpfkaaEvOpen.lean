/- A list of events that came in. -/
import Derived.Test.YtnlghcpidlpfkaaEvA
import Derived.Test.YtnlghcpidlpfkaaOpen
set_option linter.unusedVariables false
namespace Go.Proofs.Ytnlghcpidlpfkaa
open Go.RowKit Go.ChangeShapes Go.WideShapes Go.Deep
section
variable {H : Type} {enc : TypeId × Value → H} {w : World}
theorem open_evs {d : DataW H} {p : List MemPlace} {A : Option Addr} {len cap : Nat} (h : DataW.Trod enc Try.prog w 0 (fun _ => true) true 67 (.slice A len cap) d p) :
    ∃ l : List Ev, len ≤ 9223372036854775807 ∧ Reads w w.heap.size 2 A len (evs l) := by
  obtain ⟨fuel, hf⟩ := h
  obtain ⟨A', len', cap', l, hcs, hn, hr, _⟩ := open_list evc 2 (fun _ => True) (fun _ => rfl) Try.underlying67 (by kernel_rfl) (by omega) (fun n cs' y hl ht => by
    obtain ⟨n', hfs⟩ := trod_fields Try.underlying158 (by kernel_rfl) hl ht
    obtain ⟨v0, z0, e0, t0⟩ := hfs 0 _ rfl
    obtain ⟨v1, z1, e1, t1⟩ := hfs 1 _ rfl
    obtain ⟨x0, rfl, _⟩ := field_int Try.underlying2 t0
    obtain ⟨x1, rfl, _⟩ := field_int Try.underlying2 t1
    exact ⟨⟨x0, x1⟩, (list2 hl e0 e1).symm, trivial⟩) hf
  simp [Value.cells] at hcs
  obtain ⟨rfl, rfl, rfl⟩ := hcs
  exact ⟨l, hn, hr⟩
end
end Go.Proofs.Ytnlghcpidlpfkaa
