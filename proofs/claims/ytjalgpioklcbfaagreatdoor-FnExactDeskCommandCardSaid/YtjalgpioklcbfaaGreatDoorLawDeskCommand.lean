/- FnExactDeskCommand: for all arguments the program's DeskCommand returns what the reference's returns; the arguments are left as they were; the listed variables of Go's library hold what their initialisers lay (the card ties them): the row's step and the card. -/
import Derived.Test.YtjalgpioklcbfaaGreatDoorRows
import Derived.Test.YtjalgpioklcbfaaGreatDoorTie
import Derived.Test.YtjalgpioklcbfaaGreatDoorCards
import Derived.Test.YtjalgpioklcbfaaGreatDoorKWkDeskCommand
import Derived.ProofKit
import Derived.OpenShut
import Derived.ChangeOld
import Derived.WalkSmall
import Derived.LaidMore
import Derived.SevenTiedAt
import Derived.Stop.LaidErr
import Derived.Lib.LaidTab
import Derived.Stop.Joined
import Derived.Test.YtjalgpioklcbfaaGreatDoorMgDesksAE
import Derived.Lay
import Derived.Test.YtjalgpioklcbfaaGreatDoorMgDesksAK
import Derived.OpenVars
import Derived.ChangeVars
set_option linter.unusedVariables false
namespace Go.Proofs.YtjalgpioklcbfaaGreatDoor.lawDeskCommand
open Go.Proofs.Tryz
open Go.ChangeShapes Go.WideShapes Go.ChangeAt Go.RowKit Go.Proofs.YtjalgpioklcbfaaGreatDoor
open Go.ChangeMaps (open_string shut_string)

theorem own : ownKnob prog.godebug = none := by kernel_rfl
theorem laidOut : laidOutB prog = true := by kernel_rfl
theorem tab_of {W : World} (h : laidMetH prog Rows.fnExactDeskCommandRow.laid W) : TabP W := by
 rw [MakeChecks.laidMetH_plain _ _ _ (by kernel_rfl)] at h
 exact Lib.tabIs_of_head (k := .u64) (zs := Lib.pow10Tab) (g := 4) (t := 296) (e := 92) (n := 20) (by kernel_rfl) (by kernel_rfl) (by kernel_rfl) (by kernel_rfl) (by kernel_rfl) (by kernel_rfl) h.tail.tail
theorem syn {W : World} (h : laidMetH prog Rows.fnExactDeskCommandRow.laid W) : SynP W := by
 rw [MakeChecks.laidMetH_plain _ _ _ (by kernel_rfl)] at h
 exact zr5 h.tail.tail.tail.tail.tail
theorem cnp {W : World} (h : laidMetH prog Rows.fnExactDeskCommandRow.laid W) : CnP W := by
 rw [MakeChecks.laidMetH_plain _ _ _ (by kernel_rfl)] at h
 exact zq5 h.tail.tail.tail.tail.tail.tail

set_option maxRecDepth 100000 in
theorem lifted (os : Os) (started : os.Started) (H : Type) (enc : TypeId × Value → H) :
  ReturnsInHanded {} Tryz.checked os 5 .any (fun w args => (Rows.fnExactDeskCommandSpec.pre enc prog Tryz.f5 [] false w args ∧ laidMetH prog Rows.fnExactDeskCommandRow.laid w) ∧ sizedMet enc prog Tryz.f5 (OpenSpec.ofChange Rows.fnExactDeskCommandSpec) false w args) (Rows.fnExactDeskCommandSpec.post enc prog Tryz.f5 false true false false) := by
 refine zfT (C := Tryz.checked) (X := fun w _ => laidMetH prog Rows.fnExactDeskCommandRow.laid w) (fun _ _ _ hh h => h.of_heap hh) own started (by kernel_rfl) func5
  (ChangeSpec.witness_shaped (enc := enc) (C := Tryz.checked) (os := os) (X := fun w _ => laidMetH prog Rows.fnExactDeskCommandRow.laid w) false (World.laidAll prog os Rows.fnExactDeskCommandRow.laid) #[.agg #[.int .i64 0, .slice none 0 0, .slice none 0 0, .slice none 0 0, .string ⟨#[]⟩], .string ⟨#[]⟩] 8 (World.laidAll_os _ _ _) (World.shaped_of_ZipB (by kernel_rfl) (by kernel_rfl)) (by kernel_rfl) (by kernel_rfl) (by kernel_rfl) (by rw [MakeChecks.laidMetH_plain _ _ _ (by kernel_rfl)]; exact laidMet_laidAll _ (by kernel_rfl) (by kernel_rfl))) ?_
 intro W base args ds gs before hval0 hW hsh hL
 obtain ⟨m, hm⟩ := zlC hsh
 have hS := syn hL
 have hval : ∀ (j : Nat) t v, Tryz.f5.params[j]? = some t → args[j]? = some v → Value.okWide prog W .any base t v := hval0
 have hW' := hW
 obtain ⟨p, q, hA0, hV, rfl, hfz, hnd⟩ := hW
 have hA : DataW.TrodAll enc prog W 0 (fun _ => true) true Tryz.f5.params.toList args.toList ds p := hA0
 rw [Tryz.params5] at hA hval
 obtain ⟨v0, vs0, d0, ds0, p0, q0, hargs, rfl, rfl, h0, r0⟩ := trodAll_cons hA
 obtain ⟨v1, vs1, d1, ds1, p1, q1, rfl, rfl, rfl, h1, r1⟩ := trodAll_cons r0
 obtain ⟨rfl, rfl, rfl⟩ := trodAll_nil r1
 obtain rfl : args = #[v0, v1] := by cases args; simp_all
 have hV2 := hV
 obtain ⟨gv, tv, cv, fv, dv, pv, rfl, hgv, htv, hvv, hdv, hpv⟩ := trodVars_one hV2
 have hT := tab_of hL
 have k0 := h0
 have lt0 : ∀ x ∈ p0, x.block < W.heap.size := by obtain ⟨m, hm⟩ := k0; exact DataW.trod_lt m _ _ _ hm
 obtain ⟨hd0, dk0, rfl, w0, n0, g0⟩ := ztp (hval 0 46 v0 rfl rfl) h0
 obtain ⟨a1, rfl, rfl, rfl, w1⟩ := open_string underlying9 (hval 1 9 v1 rfl rfl) h1
 clear hA0 hval0
 refine (walk hd0 dk0 a1 W w0 n0 g0 (by unfold maxLen at w1; omega) m hm hT hS (cnp hL)).mono fun e W' ⟨he, bel⟩ => ?_
 subst he
 exact ⟨_, rfl, _, _, _, [], _, _, hW', trodAll_mk1 (shut_bool underlying4 _), (trodAll_cons_mk (Below.trod laidOut (by kernel_rfl) (of_decide_eq_true (by kernel_rfl)) k0 bel lt0) (trodAll_cons_mk (shut_string underlying9 w1) trodAll_mk0)), bel.trodVars laidOut (by kernel_rfl) hV, bel.frame _, fun h => by cases h⟩

theorem band {a b : Bool} (ha : a = true) (hb : b = true) : (a && b) = true := by rw [ha, hb]; rfl
set_option maxHeartbeats 20000000 in
theorem closed : joinedFacts prog 5 Tryz.f5 Rows.fnExactDeskCommandSpec Rows.fnExactDeskCommandRow = true := by
 unfold joinedFacts
 refine band (band (band (band (band (band (band (band (band (band (band (band (band (band (band (band (band (band (band (band (band (band (band (band (band (band (band (band (band (band (band ?_ ?_) ?_) ?_) ?_) ?_) ?_) ?_) ?_) ?_) ?_) ?_) ?_) ?_) ?_) ?_) ?_) ?_) ?_) ?_) ?_) ?_) ?_) ?_) ?_) ?_) ?_) ?_) ?_) ?_) ?_) ?_
 all_goals (as_aux_lemma => kernel_rfl)
theorem over : Rows.fnExactDeskCommandRow.holds Tryz.pinned (OpenSpec.ofChange Rows.fnExactDeskCommandSpec) :=
 OpenClaim.holds_of_wide 5 Tryz.f5 rfl rfl rfl rfl rfl rfl rfl ⟨rfl, rfl, rfl, rfl, rfl⟩ rfl rfl rfl rfl rfl (by kernel_rfl) func5 closed
  (of_decide_eq_true (by kernel_rfl)) (by unfold Func.isWrapper; first | (rw [if_pos (by decide +kernel)]; kernel_rfl) | (rw [if_neg (by decide +kernel)]; exact ⟨rfl, rfl⟩))
  (fun os started H enc _ => lifted os started H enc)

theorem proved : Rows.FnExactDeskCommandCardSaid :=
 Claim7.holds_tied_plain_at .later [] [.data, .data, .data, .data, .sentinel, .sentinel, .data, .pinned] true (true, "39f28c626c618771115a0d041dba22ea57a135918772f8bc522a233a206c79de") true
  over (fun _ h => by cases h) (by kernel_rfl) (fun _ h => by cases h) fnExactDeskCommand_row_tie rfl ⟨rfl, rfl⟩ (by kernel_rfl) rfl
  (fun f fn hf hfn => by
   obtain rfl : f = 5 := Option.some.inj ((show prog.funcNamed Tryz.f5.name = some 5 by kernel_rfl).symm.trans hf) |>.symm
   obtain rfl : fn = Tryz.f5 := (Option.some.inj (func5.symm.trans hfn)).symm
   exact ⟨by kernel_rfl, fun j t ht => by
    rw [Tryz.params5] at ht
    have hm : t ∈ [46, 9] := by simpa [or_assoc] using Array.mem_of_getElem? ht
    have hall : ([46, 9].all fun u => !prog.wantsStandIn u) = true := by kernel_rfl
    exact (show prog.wantsStandIn t = false by simpa using List.all_eq_true.1 hall t hm)⟩)
  (by kernel_rfl)
#print axioms proved
end Go.Proofs.YtjalgpioklcbfaaGreatDoor.lawDeskCommand
