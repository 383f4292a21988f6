/- Words for slices at offset nought. -/
import Derived.Test.YtnlghcpidlpfkaaMem
set_option linter.unusedVariables false
namespace Go.Proofs.Ytnlghcpidlpfkaa
open Go.RowKit
theorem Reads.src {w : World} {B size n g : Nat} {xs : List Value} (h : Reads w B size (some ⟨g, 0, none⟩) n xs) : ∀ j u, xs[j]? = some u → w.cell? ⟨g, j, none⟩ = some u := fun j u hu => by
  rcases Nat.eq_zero_or_pos n with h0 | h0
  · have := h.1
    rw [h0, Nat.zero_mul] at this
    rw [List.length_eq_zero_iff.1 this] at hu; simp at hu
  · obtain ⟨b, off, e, _, hc⟩ := h.at_ h0
    injection e with e; injection e with e e'; subst e; subst e'
    have := hc j u hu
    rwa [Nat.zero_add] at this
theorem Reads.drewN {w : World} {B size n : Nat} {A : Option Addr} {xs : List Value} (h : Reads w B size A n xs) (m : Nat) : Reads (w.drewN m) B size A n xs := h.keep fun _ _ => rfl
end Go.Proofs.Ytnlghcpidlpfkaa
