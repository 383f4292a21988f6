/- Bookings: slices.Insert of one element, where there is no room. -/
import Derived.Test.YtnlghcpidlpfkaaBkS
import Derived.Test.YtnlghcpidlpfkaaInsG
set_option linter.unusedVariables false
set_option linter.unusedSimpArgs false
namespace Go.Proofs.Ytnlghcpidlpfkaa
open Go.RowKit

set_option maxHeartbeats 4000000 in
set_option maxRecDepth 100000 in
theorem insBk_grow (g n i vb lo hi : Nat) (xs vs : List Value) (w : World) (hxl : xs.length = n * 3) (hB : ∀ j u, xs[j]? = some u → w.cell? ⟨g, j, none⟩ = some u) (hg1 : lo ≤ g) (hg2 : g < hi) (hhi : hi ≤ w.heap.size) (hi' : i < n) (hn : n ≤ 1000000) (h1x : ∀ u ∈ xs, u.oneCell' = true) (hv : Blk w vb 45 vs.toArray) (hvl : vs.length = 3) (hvb : vb ≠ g) (h1v : ∀ u ∈ vs, u.oneCell' = true) :
    Calls Try.prog 113 #[.slice (some ⟨g, 0, none⟩) n n, .int .i64 i, .slice (some ⟨vb, 0, none⟩) 1 1] w fun e w' => ∃ A' c', e = .returned (.slice A' (n + 1) c') ∧ Sl w' lo w'.heap.size 45 3 A' (n + 1) c' (xs.take (i * 3) ++ vs ++ xs.drop (i * 3)) ∧ Only lo w.heap.size w w' := by
  have hvw : vb < w.heap.size := hv.lt
  obtain ⟨ys, hys⟩ : ∃ ys, ys = xs.drop (i * 3) := ⟨_, rfl⟩
  have hyl : ys.length = (n - i) * 3 := by rw [hys, List.length_drop]; omega
  have HY1 := Lib.hid (show ∀ u ∈ ys, u.oneCell' = true from fun u hu => h1x u (List.mem_of_mem_drop (by rw [hys] at hu; exact hu)))
  have HV1 := Lib.hid h1v
  have HYS := Lib.hid hys
  have HYL := Lib.hid hyl
  have HNe := Lib.hid hvb
  have HVl := Lib.hid hvl
  have HXl := Lib.hid hxl
  have HVb := Lib.hid hv
  obtain ⟨N, hN⟩ : ∃ N, N = w.heap.size := ⟨_, rfl⟩
  have HN := Lib.hid hN
  have hold := Lib.hid (show ∀ j u, (xs.take (i * 3))[j]? = some u → w.cell? ⟨g, j, none⟩ = some u from fun j u hu => by
    rw [List.getElem?_take] at hu
    split at hu
    · exact hB j u hu
    · cases hu)
  have HBs := Lib.hid (show ∀ j u, ys[j]? = some u → w.cell? ⟨g, i * 3 + j, none⟩ = some u from fun j u hu => by
    rw [hys, List.getElem?_drop] at hu
    exact hB _ u hu)
  have htl := Lib.hid (show (xs.take (i * 3)).length = i * 3 by rw [List.length_take]; omega)
  have hw1 : IntKind.i64.wrap ((i : Int) + 1) = (i : Int) + 1 := by rw [IntKind.wrap_i64]; omega
  have hw2 : IntKind.i64.wrap ((n : Int) + 1) = (n : Int) + 1 := by rw [IntKind.wrap_i64]; omega
  have hw3 : IntKind.i64.wrap ((n : Int) + 1 - (i : Int)) = (n : Int) + 1 - (i : Int) := by rw [IntKind.wrap_i64]; omega
  have hb1 : (0 : Int) ≤ (i : Int) + 1 := by omega
  have htn : ((i : Int) + 1).toNat = i + 1 := by omega
  have hz2 : ¬ ((i : Int) = (n : Int)) := by omega
  have hz3 : (n : Int) < (n : Int) + 1 := by omega
  have hb4 : ¬ (n = i) := by omega
  have hb5 : (i : Int) ≤ (n : Int) := by omega
  clear hB hv h1x h1v hys hvb hyl hvl hxl hN
  go_enter Try.func113, Try.ntmps113
  go_wp2_with (at_builtin; refine wpList_growZeros rfl _ _ 41 3 rfl 45 _ 3 32 Try.underlying41 Try.underlying3 info_bk rfl (by decide) (by decide) g i n rfl (n + 1 - i) _ rfl (by omega) (by omega) (by omega) (by omega) (n + 1) (by omega) (xs.take (i * 3)) htl.out hold.out ?_; intro w1 G row hR1 hG63 hR2 hR3 hR4 hR5 hR6 hR7; have HR1 := Lib.hid hR1; have HR2 := Lib.hid hR2; have HR3 := Lib.hid hR3; have HR4 := Lib.hid (And.intro hR4 hR5); have HR5 := Lib.hid (And.intro hR6 hR7); have hGi : ¬ (G = i) := (by omega); have hGj : ¬ (G = i + 1) := (by omega); clear hR2 hR3 hR4 hR5 hR6 hR7)
  have hvs := Lib.hid (show ∀ j u, vs[j]? = some u → w1.cell? ((⟨vb, 0, none⟩ : Addr).add j) = some u from fun j u hu => by
    rw [add_plain, HR5.out.1.cell (p := ⟨vb, 0 + j, none⟩) hvw, Nat.zero_add]
    refine (HVb.out.cell j).trans ?_
    simpa using hu)
  have hrun := run_copy_blk w1 41 41 3 45 3 w.heap.size (i * 3) (n + 1 - i) (G - i) ⟨vb, 0, none⟩ 1 1 row.toArray 45 vs Try.underlying41 iszBk HR3.out (by rw [HVl.out]; simp only [Nat.min_def]; split <;> omega) hvs.out (by have := HR4.out.2; have := HVl.out; simp; omega) HV1.out
  rw [hrun]
  clear hrun
  obtain ⟨w2, hw2'⟩ : ∃ y, w1.setRow w.heap.size (row.toArray.toList.take (i * 3) ++ vs ++ row.toArray.toList.drop (i * 3 + vs.length)).toArray = y := ⟨_, rfl⟩
  have L2 := Lib.hid (show Laid w.heap.size 45 (splice row (i * 3) vs) w1 w2 by
    rw [← hw2']
    have := laid_setRow HR3.out (splice row (i * 3) vs)
    simpa [splice] using this)
  rw [hw2']
  clear hw2'
  have hsrc := Lib.hid (show ∀ j u, ys[j]? = some u → w2.cell? ⟨g, i * 3 + j, none⟩ = some u from fun j u hu => by
    rw [World.cell?_of_block (L2.out.block g (by omega)), HR5.out.1.cell (p := ⟨g, i * 3 + j, none⟩) (by simp only; omega)]
    exact HBs.out j u hu)
  have hsl := Lib.hid (show (splice row (i * 3) vs).length = G * 3 by
    rw [length_splice _ _ _ (by have := HR4.out.2; have := HVl.out; omega)]
    exact HR4.out.2)
  go_wp2
  go_region_law (refine step_copyBlk rfl _ _ 41 41 rfl 45 3 Try.underlying41 iszBk w.heap.size ((i + 1) * 3) (n - i) (G - (i + 1)) ⟨g, i * 3, none⟩ (n - i) (n - i) (by simp [Act.eval, Act.put]) (by simp [Act.eval, Act.put]) (i * 3 + 3) (by omega) (splice row (i * 3) vs) 45 L2.out.blk ys (by have := HYL.out; simp only [Nat.min_self]; exact this) (fun j v hj => by rw [add_plain]; exact hsrc.out j v hj) (by have := HYL.out; have := hsl.out; omega) HY1.out ?_; intro w4 hw4)
  have HW4 := Lib.hid hw4
  clear hw4
  go_wp2
  go_ret
  have hL := HW4.out.drew
  rw [HYS.out] at hL
  have hlen : (splice (splice row (i * 3) vs) (i * 3 + 3) (xs.drop (i * 3))).length = G * 3 := by
    have hyl := HYL.out
    rw [HYS.out] at hyl
    rw [length_splice _ _ _ (by have := hsl.out; omega)]
    exact hsl.out
  have hxl' := HXl.out
  have hsz : w4.heap.size = w.heap.size + 1 := by rw [hL.size, L2.out.size]; exact HR5.out.2
  refine ⟨_, _, rfl, ⟨⟨by simp only [List.length_append, List.length_take, List.length_drop, HVl.out]; omega, .inr ⟨w.heap.size, G, _, rfl, by omega, hL.blk, HR1.out, HR2.out, by simpa using hlen, ?_⟩⟩, fun b hb => by injection hb with hb; subst hb; simp only; omega⟩, ?_⟩
  · have hf := splice_grow (row := row) (xs := xs) (vs := vs) (p := i * 3) (q := 3) (N := n * 3) HR4.out.1 HXl.out (by omega) HVl.out (by have := HR4.out.2; omega)
    rw [← hf, Nat.succ_mul]
  · have hT := (L2.out.trans hL)
    refine ⟨hT.os.trans HR5.out.1.os, hT.tape.trans HR5.out.1.tape, hT.output.trans HR5.out.1.output, by omega, fun k hk hd => ?_⟩
    rw [hT.block k (by omega)]
    exact HR5.out.1.block k hk
end Go.Proofs.Ytnlghcpidlpfkaa
