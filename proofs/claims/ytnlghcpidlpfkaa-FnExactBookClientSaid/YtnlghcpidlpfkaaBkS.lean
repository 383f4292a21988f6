/- Bookings: slices.Insert of one element, at a slice of the call's own. -/
import Derived.Test.YtnlghcpidlpfkaaBkR
import Derived.Laws.Externs
import Derived.Lib.AppendZeros
import Derived.Deep.RegionLaw
set_option linter.unusedVariables false
set_option linter.unusedSimpArgs false
namespace Go.Proofs.Ytnlghcpidlpfkaa
open Go.RowKit

theorem iszBk : (Try.prog.info? 45).map (·.size) = some 3 := by kernel_rfl
theorem iovBk (w : World) (vb g o lb cb : Nat) (t : TypeId) (vs cur : List Value) (hv : Blk w vb t vs.toArray) (hg : Blk w g t cur.toArray) (hne : vb ≠ g) (hk : cur.length ≠ 0) :
    (callFunc 193 #[.slice (some ⟨vb, 0, none⟩) 1 1, .slice (some ⟨g, o, none⟩) lb cb]).run Try.prog w = .ok (.value (.bool false)) w := by
  have hsz : ∀ w, (Go.sizeOf 45).run Try.prog w = .ok 3 w := fun w => by kernel_rfl
  have hsa : w.shape? vb = some (t, vs.length) := by
    unfold Blk at hv
    simp [World.shape?, hv]
  have hsb : w.shape? g = some (t, cur.length) := by
    unfold Blk at hg
    simp [World.shape?, hg]
  rw [run_callFunc_extern (fn := Try.f193) (by kernel_rfl) (by kernel_rfl) (by kernel_rfl) (by kernel_rfl) (e := Extern.SlicesOverlaps.overlaps #[41, 41] #[4]) (by kernel_rfl),
    Lib.run_overlaps_apart w 41 4 45 Try.underlying41 3 hsz ⟨vb, 0, none⟩ ⟨g, o, none⟩ 1 1 lb cb hne t t vs.length cur.length hsa hsb hk (hv.frozen 0) (hv.frozen _)]
  rfl

set_option maxHeartbeats 4000000 in
set_option maxRecDepth 100000 in
theorem insBk_end (g n c vb lo hi : Nat) (xs vs : List Value) (w : World) (h : Sl w lo hi 45 3 (some ⟨g, 0, none⟩) n c xs) (hhi : hi ≤ w.heap.size) (hn : n ≤ 1000000) (hc : c ≤ 9223372036854775807) (hv : Blk w vb 45 vs.toArray) (hvl : vs.length = 3) (h1v : ∀ u ∈ vs, u.oneCell' = true) :
    Calls Try.prog 113 #[.slice (some ⟨g, 0, none⟩) n c, .int .i64 n, .slice (some ⟨vb, 0, none⟩) 1 1] w fun e w' => ∃ A' c', e = .returned (.slice A' (n + 1) c') ∧ Sl w' lo w'.heap.size 45 3 A' (n + 1) c' (xs ++ vs) ∧ Only lo w.heap.size w w' := by
  have hg1 : lo ≤ g := by
    rcases h.form with ⟨h0, _⟩ | ⟨g', _, e, h1, _⟩
    · cases h0
    · injection e with e; injection e with e; omega
  have hg2 : g < hi := h.2 _ rfl
  have acc0 := Lib.hid (Acc.start (b0 := g) h (fun a ha => by injection ha with ha; subst ha; rfl) w.heap.size)
  have hcells := Lib.hid (show ∀ j u, vs[j]? = some u → w.cell? ⟨vb, 0 + j, none⟩ = some u from fun j u hu => by rw [Nat.zero_add, hv.cell]; simpa using hu)
  have hnc : n ≤ c := by
    rcases h.form with ⟨h0, _⟩ | ⟨g', _, e, _, _, _, hh, _⟩
    · cases h0
    · exact hh
  have HV1 := Lib.hid h1v
  clear h hv h1v
  by_cases hcn : c = n
  · subst hcn
    go_enter Try.func113, Try.ntmps113
    go_wp2_with (at_builtin; refine wpList_accMany rfl _ _ 41 rfl 45 _ 3 32 Try.underlying41 info_bk rfl (by decide) (by decide) acc0.out (Nat.le_refl _) rfl vb 0 1 1 vs rfl (by omega) hcells.out HV1.out (by omega) ?_; intro A2 d2 w9 hacc2; have HA2 := Lib.hid hacc2; clear hacc2)
    go_ret
    exact ⟨_, _, rfl, HA2.out.sl hg1 (by omega), ⟨HA2.out.os, HA2.out.tape, HA2.out.output, HA2.out.size, fun k hk hd => HA2.out.block k hk (by omega)⟩⟩
  · go_enter Try.func113, Try.ntmps113
    go_wp2_with (at_builtin; refine wpList_accMany rfl _ _ 41 rfl 45 _ 3 32 Try.underlying41 info_bk rfl (by decide) (by decide) acc0.out (Nat.le_refl _) rfl vb 0 1 1 vs rfl (by omega) hcells.out HV1.out (by omega) ?_; intro A2 d2 w9 hacc2; have HA2 := Lib.hid hacc2; clear hacc2)
    go_ret
    exact ⟨_, _, rfl, HA2.out.sl hg1 (by omega), ⟨HA2.out.os, HA2.out.tape, HA2.out.output, HA2.out.size, fun k hk hd => HA2.out.block k hk (by omega)⟩⟩

set_option maxHeartbeats 4000000 in
set_option maxRecDepth 100000 in
theorem insBk_shift (g n c i vb lo hi : Nat) (cur xs vs : List Value) (w : World) (hB : Blk w g 45 cur.toArray) (hcs : cur.length = c * 3) (hx : cur.take (n * 3) = xs) (hg1 : lo ≤ g) (hg2 : g < hi) (hhi : hi ≤ w.heap.size) (hi' : i < n) (hnc : n + 1 ≤ c) (hn : n ≤ 1000000) (hc : c ≤ maxLen) (h1x : ∀ u ∈ xs, u.oneCell' = true) (hv : Blk w vb 45 vs.toArray) (hvl : vs.length = 3) (hvb : vb ≠ g) (h1v : ∀ u ∈ vs, u.oneCell' = true) :
    Calls Try.prog 113 #[.slice (some ⟨g, 0, none⟩) n c, .int .i64 i, .slice (some ⟨vb, 0, none⟩) 1 1] w fun e w' => ∃ A' c', e = .returned (.slice A' (n + 1) c') ∧ Sl w' lo w'.heap.size 45 3 A' (n + 1) c' (xs.take (i * 3) ++ vs ++ xs.drop (i * 3)) ∧ Only lo w.heap.size w w' := by
  have hxl : xs.length = n * 3 := by rw [← hx]; simp; omega
  have HFin := Lib.hid (splice_shift (cur := cur) (xs := xs) (vs := vs) (p := i * 3) (q := 3) (N := n * 3) hx (by omega) hvl (by omega))
  have hov := iovBk w vb g
  have HOv := Lib.hid (fun o lb cb => iovBk w vb g o lb cb 45 vs cur hv hB hvb (by omega))
  clear hov
  obtain ⟨ys, hys⟩ : ∃ ys, ys = xs.drop (i * 3) := ⟨_, rfl⟩
  have hyl : ys.length = (n - i) * 3 := by rw [hys, List.length_drop]; omega
  have h1y : ∀ u ∈ ys, u.oneCell' = true := fun u hu => h1x u (List.mem_of_mem_drop (by rw [hys] at hu; exact hu))
  have HY1 := Lib.hid h1y
  have HYL := Lib.hid hyl
  have HNe := Lib.hid hvb
  have HVl := Lib.hid hvl
  have HXl := Lib.hid hxl
  have HV1 := Lib.hid h1v
  have HYS := Lib.hid hys
  have hsrc := Lib.hid (show ∀ j u, ys[j]? = some u → w.cell? ⟨g, i * 3 + j, none⟩ = some u from fun j u hu => by
    rw [hys, List.getElem?_drop] at hu
    rw [hB.cell, List.getElem?_toArray]
    rw [← hx, List.getElem?_take] at hu
    split at hu
    · exact hu
    · cases hu)
  have HBl := Lib.hid hB
  have HVb := Lib.hid hv
  have hw1 : IntKind.i64.wrap ((i : Int) + 1) = (i : Int) + 1 := by rw [IntKind.wrap_i64]; omega
  have hw2 : IntKind.i64.wrap ((n : Int) + 1) = (n : Int) + 1 := by rw [IntKind.wrap_i64]; unfold maxLen at hc; omega
  have hb1 : (0 : Int) ≤ (i : Int) + 1 := by omega
  have htn : ((i : Int) + 1).toNat = i + 1 := by omega
  have htn2 : ((n : Int) + 1).toNat = n + 1 := by omega
  have hz2 : ¬ ((i : Int) = (n : Int)) := by omega
  have hz3 : decide ((c : Int) < (n : Int) + 1) = false := decide_eq_false (by omega)
  have hb2 : ¬ (c = i + 1) := by omega
  have hb3 : (i : Int) ≤ (n : Int) + 1 := by omega
  have hb4 : ¬ (c = i) := by omega
  have hb5 : (i : Int) ≤ (n : Int) := by omega
  have hb6 : (n : Int) + 1 ≤ (c : Int) := by omega
  have hb7 : (i : Int) + 1 ≤ (n : Int) + 1 := by omega
  have hc' : c ≤ 9223372036854775807 := by unfold maxLen at hc; omega
  clear hB hv h1x h1v h1y hx hys hvb hyl hvl hxl
  go_enter Try.func113, Try.ntmps113
  go_wp2_with (simp only [HOv.out])
  go_region_law (refine step_copyBlk rfl _ _ 41 41 rfl 45 3 Try.underlying41 iszBk g ((i + 1) * 3) (n - i) (c - (i + 1)) ⟨g, i * 3, none⟩ (n + 1 - i) (c - i) (by simp [Act.eval, Act.put]) (by simp [Act.eval, Act.put]) (i * 3 + 3) (by omega) cur 45 HBl.out ys (by have := HYL.out; simp only [Nat.min_def]; split <;> omega) (fun j v hj => by rw [add_plain]; exact hsrc.out j v hj) (by have := HYL.out; omega) HY1.out ?_; intro w4 hw4)
  have HW4 := Lib.hid hw4
  clear hw4
  have hvs := Lib.hid (show ∀ j u, vs[j]? = some u → w4.cell? ⟨vb, 0 + j, none⟩ = some u from fun j u hu => by
    rw [World.cell?_of_block (HW4.out.block vb HNe.out), Nat.zero_add]
    refine (HVb.out.cell j).trans ?_
    simpa using hu)
  go_wp2_with fail
  have hrun := run_copy_blk w4 41 41 3 45 3 g (i * 3) (n + 1 - i) (c - i) ⟨vb, 0, none⟩ 1 1 (splice cur (i * 3 + 3) ys).toArray 45 vs Try.underlying41 iszBk HW4.out.blk (by rw [HVl.out]; simp only [Nat.min_def]; split <;> omega) (fun j v hj => by rw [add_plain]; exact hvs.out j v hj) (by rw [List.size_toArray, length_splice _ _ _ (by have := HYL.out; omega), HVl.out]; omega) HV1.out
  rw [hrun]
  clear hrun
  obtain ⟨w5, hw5'⟩ : ∃ y, w4.setRow g ((splice cur (i * 3 + 3) ys).toArray.toList.take (i * 3) ++ vs ++ (splice cur (i * 3 + 3) ys).toArray.toList.drop (i * 3 + vs.length)).toArray = y := ⟨_, rfl⟩
  have HW5 := Lib.hid (show Laid g 45 (splice (splice cur (i * 3 + 3) ys) (i * 3) vs) w4 w5 by
    rw [← hw5']
    have := laid_setRow HW4.out.blk (splice (splice cur (i * 3 + 3) ys) (i * 3) vs)
    simpa [splice] using this)
  rw [hw5']
  clear hw5'
  go_wp2
  go_ret
  have hL := HW4.out.drew.trans HW5.out
  rw [HYS.out] at hL
  have hlen : (splice (splice cur (i * 3 + 3) (xs.drop (i * 3))) (i * 3) vs).length = c * 3 := by
    have hyl := HYL.out
    rw [HYS.out] at hyl
    rw [length_splice _ _ _ (by rw [length_splice _ _ _ (by omega), HVl.out]; omega), length_splice _ _ _ (by omega), hcs]
  have hxl' := HXl.out
  refine ⟨_, _, rfl, ⟨⟨by simp only [List.length_append, List.length_take, List.length_drop, HVl.out]; omega, .inr ⟨g, c, _, rfl, hg1, hL.blk, hnc, hc, by simpa using hlen, ?_⟩⟩, fun b hb => by injection hb with hb; subst hb; exact hL.blk.lt⟩, hL.only hg1 (by omega)⟩
  have hf := HFin.out
  rw [← hf, Nat.succ_mul]
end Go.Proofs.Ytnlghcpidlpfkaa
