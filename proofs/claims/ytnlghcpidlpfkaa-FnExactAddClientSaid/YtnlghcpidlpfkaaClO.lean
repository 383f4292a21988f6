/- Clients: a contract extended, as the program does it. -/
import Derived.Test.YtnlghcpidlpfkaaClN
import Derived.WalkLawsBesides
set_option linter.unusedVariables false
namespace Go.Proofs.Ytnlghcpidlpfkaa
open Go.RowKit

set_option maxHeartbeats 2000000 in
set_option maxRecDepth 100000 in
theorem clone_any (b off n c : Nat) (l : List Cl) (B : Nat) (w : World) (h : Reads w B 5 (some ⟨b, off, none⟩) n (cls l)) (hB : B ≤ w.heap.size) (hn : n ≤ 1048576) :
    Calls Try.prog 104 #[.slice (some ⟨b, off, none⟩) n c] w fun e w' => ∃ A' c', e = .returned (.slice A' n c') ∧ Sl w' w.heap.size w'.heap.size 31 5 A' n c' (cls l) ∧ Below w.heap.size w w' := by
  have hl := Lib.hid (cls_len h)
  have hcells := Lib.hid (show ∀ j u, (cls l)[j]? = some u → (w.alloc (.cells #[] 31)).cell? ⟨b, off + j, none⟩ = some u from fun j u hu => by
    rcases Nat.eq_zero_or_pos n with h0 | h0
    · have : (cls l).length = 0 := by rw [cls_length, hl.out, h0]
      rw [List.length_eq_zero_iff.1 this] at hu; simp at hu
    · obtain ⟨b', off', e, _, hc⟩ := (h.on hB ((Below.refl _ _).alloc (Nat.le_refl _) _)).at_ h0
      injection e with e; injection e with e e'; subst e; subst e'
      exact hc j u hu)
  have acc0 := Lib.hid (Acc.made w 31 5)
  clear h
  have hnil := fun W : World => Lib.run_eql_slice_nil (P := Try.prog) W 27 31 (some ⟨b, off, none⟩) n c 0 0 Try.underlying27
  simp only [Option.isNone_some] at hnil
  go_enter Try.func104, Try.ntmps104
  go_wp2_with (at_builtin; refine wpList_accMany rfl _ _ 27 rfl 31 _ 5 48 Try.underlying27 info_cl rfl (by decide) (by decide) acc0.out (Nat.le_refl _) rfl b off n c (cls l) rfl (by rw [cls_length, hl.out]) hcells.out (cls_one l) (by omega) ?_; intro A2 d2 w9 hacc2; rw [Nat.zero_add]; rw [Nat.zero_add, List.nil_append] at hacc2; have HA2 := Lib.hid hacc2; clear hacc2)
  go_ret
  exact ⟨_, _, rfl, HA2.out.sl (Nat.le_refl _) (Nat.le_refl _), HA2.out.below (Nat.le_refl _) (Nat.le_refl _)⟩

end Go.Proofs.Ytnlghcpidlpfkaa
