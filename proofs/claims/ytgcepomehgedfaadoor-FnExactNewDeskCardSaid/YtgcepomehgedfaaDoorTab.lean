/- The library's table of powers of ten, carried; the program's decimal form of a number. -/
import Derived.Test.YtgcepomehgedfaaDoorDecW
import Derived.Test.YtgcepomehgedfaaDoorShelf
import Derived.Lib.LaidTab
set_option linter.unusedVariables false
namespace Go.Proofs.YtgcepomehgedfaaDoor
open Go.RowKit Go.Lib

def TabP (w : World) : Prop := Lib.TabIs Tryd.prog w "internal/strconv.uint64pow10" .u64 Lib.pow10Tab
theorem tabUp {w w' : World} (h : TabP w) (hb : Below w.heap.size w w') : TabP w' := by
  unfold TabP Lib.TabIs World.var? at h ⊢
  cases hg : Tryd.prog.globalNamed "internal/strconv.uint64pow10" with
  | none => rw [hg] at h; cases h
  | some g =>
    rw [hg] at h
    simp only [Option.bind_some] at h ⊢
    have hlt : g < w.heap.size := by
      rcases Nat.lt_or_ge g w.heap.size with h' | h'
      · exact h'
      · rw [Array.getElem?_eq_none h'] at h; cases h
    rw [hb.block g hlt]
    exact h
theorem below_grow (w : World) (k : Nat) (os : Array Obj) : Below w.heap.size w (Sort.grow (w.drewN k) os) :=
  ⟨rfl, rfl, rfl, by simp, fun q hq => Sort.heap_grow_old (w.drewN k) os hq⟩
theorem decimal_any (n : Int) (w : World) (h0 : -9223372036854775808 ≤ n) (h1 : n ≤ 9223372036854775807) (ht : TabP w) :
    Calls Tryd.prog 32 #[.int .i64 n] w fun e w' => e = .returned (.string (asBytes (itoa n))) ∧ Below w.heap.size w w' := by
  go_enter Tryd.func32, Tryd.ntmps32
  go_wp2_with fail
  refine (Tryd.strconv_FormatInt_10 n h0 h1 _ ht).mono ?_
  rintro e w1 ⟨rfl, k, os, rfl⟩
  have hb := Lib.hid (below_grow w k os)
  obtain ⟨w1, hw1⟩ : ∃ y, Sort.grow (w.drewN k) os = y := ⟨_, rfl⟩
  rw [hw1] at hb ⊢
  clear hw1
  go_wp2
  go_ret
  exact ⟨rfl, hb.out⟩
end Go.Proofs.YtgcepomehgedfaaDoor
