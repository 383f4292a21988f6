/- FnExactValidEvents: for every list of events the program's test answers as the reference's, and the list is left as it was. -/
import Derived.Test.YtpcdpmbmibimlaaRows
import Derived.Test.YtpcdpmbmibimlaaEvD
import Derived.Test.YtpcdpmbmibimlaaEvOpen
import Derived.ProofKit
import Derived.OpenShut
import Derived.ChangeOld
namespace Go.Proofs.Ytpcdpmbmibimlaa.lawValidEvents
open Go.ChangeShapes Go.WideShapes Go.ChangeAt Go.RowKit Go.Proofs.Ytpcdpmbmibimlaa

theorem walk (A : Option Addr) (n c : Nat) (l : List Ev) (w : World) (h : Reads w w.heap.size 2 A n (evs l)) (hn : n ≤ 9223372036854775807) :
    Calls Try.prog 5 #[.slice A n c] w fun e w' => e = .returned (.bool true) ∧ Below w.heap.size w w' := by
  by_cases hs : n ≤ 1048576
  · go_enter Try.func5, Try.ntmps5
    go_wp2_with fail
    refine (szEventS_ok _ _ _ _ hs).mono ?_
    rintro e w0 ⟨rfl, rfl⟩
    go_wp2_with fail
    refine (toEventS_any _ _ _ _ l _ h (Nat.le_refl _) hs).mono ?_
    rintro e w1 ⟨g1, rfl, s1, b1⟩
    have H1 := Lib.hid b1
    clear b1
    go_wp2_with fail
    refine (specValidEvents_any _ _ _ _ l _ (s1.reads (Nat.le_refl _)) hs).mono ?_
    rintro e w2 ⟨rfl, rfl⟩
    go_wp2_with fail
    refine (toEventS_any _ _ _ w.heap.size l _ (h.on (Nat.le_refl _) H1.out) H1.out.size hs).mono ?_
    rintro e w3 ⟨g3, rfl, s3, b3⟩
    have H3 := Lib.hid (bnext H1.out b3 (Nat.le_refl _))
    clear b3
    go_wp2_with fail
    refine (implValidEvents_any _ _ _ _ l _ (s3.reads (Nat.le_refl _)) (Nat.le_refl _) hs).mono ?_
    rintro e w4 ⟨rfl, b4⟩
    have H4 := Lib.hid (bnext H3.out b4 (Nat.le_refl _))
    have s4 := s3.on b4
    have z4 := b4.size
    clear b4
    go_wp2_with fail
    refine (toEventS_any _ _ _ w.heap.size l _ (h.on (Nat.le_refl _) H4.out) H4.out.size hs).mono ?_
    rintro e w5 ⟨g5, rfl, s5, b5⟩
    have H5 := Lib.hid (bnext H4.out b5 (Nat.le_refl _))
    have s6 := s4.on b5
    have z5 := b5.size
    clear b5
    go_wp2_with fail
    refine (eqEventS_same _ _ _ _ _ _ l _ (s6.reads (Nat.le_trans z4 z5)) (s5.reads (Nat.le_refl _)) hs (Nat.le_refl _)).mono ?_
    rintro e w7 ⟨rfl, b7⟩
    have H7 := Lib.hid (bnext H5.out b7 (Nat.le_refl _))
    clear b7
    go_wp2
    go_ret
    exact ⟨rfl, H7.out⟩
  · go_enter Try.func5, Try.ntmps5
    go_wp2_with fail
    refine (szEventS_big _ _ _ _ (by omega) hn).mono ?_
    rintro e w0 ⟨rfl, rfl⟩
    go_wp2
    go_ret
    exact ⟨rfl, Below.refl _ _⟩

theorem own : ownKnob Try.prog.godebug = none := by kernel_rfl
theorem laidOut : laidOutB Try.prog = true := by kernel_rfl

set_option maxRecDepth 100000 in
theorem lifted (os : Os) (started : os.Started) (H : Type) (enc : TypeId × Value → H) :
    ReturnsInHanded {} Try.checked os 5 .any (Rows.fnExactValidEventsSpec.pre6 enc Try.prog Try.f5 Rows.fnExactValidEventsRow.domain false) (Rows.fnExactValidEventsSpec.post enc Try.prog Try.f5 false true false false) := by
  refine returnsInHanded_of_change (C := Try.checked) own started (by kernel_rfl) Try.func5
    (ChangeSpec.witness6 (enc := enc) (C := Try.checked) false ⟨#[], #[.slice none 0 0], []⟩ 8 (by kernel_rfl) (by kernel_rfl) (by kernel_rfl) (by kernel_rfl)) ?_
  intro W base args ds gs before hval0 hW hcnd _
  have hval : ∀ (j : Nat) t v, Try.f5.params[j]? = some t → args[j]? = some v → Value.okWide Try.prog W .any base t v := hval0
  have hW' := hW
  obtain ⟨p, q, hA0, hV, rfl, hfz, hnd⟩ := hW
  have hA : DataW.TrodAll enc Try.prog W 0 (fun _ => true) true Try.f5.params.toList args.toList ds p := hA0
  rw [Try.params5] at hA hval
  obtain ⟨v0, vs0, d0, ds0, p0, q0, hargs, rfl, rfl, h0, r0⟩ := trodAll_cons hA
  obtain ⟨rfl, rfl, rfl⟩ := trodAll_nil r0
  obtain rfl : args = #[v0] := by cases args; simp_all
  obtain ⟨rfl, rfl⟩ := trodVars_none hV
  have k0 := h0
  have lt0 : ∀ x ∈ p0, x.block < W.heap.size := by obtain ⟨m, hm⟩ := k0; exact DataW.trod_lt m _ _ _ hm
  obtain ⟨a0, len0, cap0, rfl⟩ := okWide_slice Try.underlying34 (hval 0 34 v0 rfl rfl)
  obtain ⟨l0, n0, w0⟩ := open_evs h0
  clear hA0 hval0
  refine (walk a0 len0 cap0 l0 W w0 n0).mono fun e W' ⟨he, bel⟩ => ?_
  subst he
  exact ⟨_, rfl, _, _, _, [], _, [], hW', trodAll_mk1 (shut_bool Try.underlying4 _), (trodAll_cons_mk (Below.trod laidOut (by kernel_rfl) (of_decide_eq_true (by kernel_rfl)) k0 bel lt0) trodAll_mk0), rfl, bel.frame _, fun h => by cases h⟩

theorem over : Rows.fnExactValidEventsRow.holds Try.pinned (OpenSpec.ofChange Rows.fnExactValidEventsSpec) :=
  OpenClaim.holds_of_wide 5 Try.f5 rfl rfl rfl rfl rfl rfl rfl ⟨rfl, rfl, rfl, rfl, rfl⟩ rfl rfl rfl rfl rfl (by kernel_rfl) Try.func5 (by kernel_rfl)
    (of_decide_eq_true (by kernel_rfl)) (by unfold Func.isWrapper; first | (rw [if_pos (by decide +kernel)]; kernel_rfl) | (rw [if_neg (by decide +kernel)]; exact ⟨rfl, rfl⟩))
    (fun os started H enc _ => lifted os started H enc)

theorem proved : Rows.FnExactValidEventsSaid := over
#print axioms proved
end Go.Proofs.Ytpcdpmbmibimlaa.lawValidEvents
