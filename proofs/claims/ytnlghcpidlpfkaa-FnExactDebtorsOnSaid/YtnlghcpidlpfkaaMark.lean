/- The text of a mark. -/
import Derived.Test.YtnlghcpidlpfkaaProg
import Derived.Test.YtnlghcpidlpfkaaMem
import Derived.WalkLawsBesides
set_option linter.unusedVariables false
namespace Go.Proofs.Ytnlghcpidlpfkaa
open Go.RowKit

def dgt (j : Nat) : UInt8 := UInt8.ofNat (48 + j % 10)
/-- The digits of k ahead of acc, with enough fuel. -/
def digs : Nat → Nat → List UInt8 → List UInt8
  | 0, _, acc => acc
  | f + 1, k, acc => if k = 0 then acc else digs f (k / 10) (dgt k :: acc)
def mkText (k : Nat) : ByteArray := ⟨(109 :: (if k = 0 then [48] else digs k k [])).toArray⟩
theorem digs_zero (f : Nat) (acc : List UInt8) : digs f 0 acc = acc := by cases f <;> simp [digs]
theorem digs_step {f k : Nat} (acc : List UInt8) (h : 0 < k) (hf : k ≤ f) : digs f k acc = digs (f - 1) (k / 10) (dgt k :: acc) := by
  obtain ⟨g, rfl⟩ : ∃ g, f = g + 1 := ⟨f - 1, by omega⟩
  rw [digs, if_neg (by omega)]
  rfl

theorem ba_append (x y : List UInt8) : (⟨x.toArray⟩ : ByteArray) ++ (⟨y.toArray⟩ : ByteArray) = ⟨(x ++ y).toArray⟩ := by
  apply ByteArray.ext
  simp [ByteArray.data_append]
theorem conv_digit (j : Nat) (w : World) : (convert 87 9 (.slice (some ⟨w.heap.size, 0, none⟩) 1 1)).run Try.prog (w.alloc (.cells #[.int .u8 (48 + (j : Int) % 10)] 5)) = .ok (.string ⟨[dgt j].toArray⟩) (w.alloc (.cells #[.int .u8 (48 + (j : Int) % 10)] 5)) := by
  have hc : ∀ i : Nat, i < 1 → (w.alloc (.cells #[.int .u8 (48 + (j : Int) % 10)] 5)).cell? ⟨w.heap.size, 0 + i, none⟩ = some (.int .u8 (([48 + (j : Int) % 10] : List Int).getD i 0)) := by
    intro i hi
    obtain rfl : i = 0 := by omega
    rw [World.cell?_alloc_at _ _ _ _ rfl]
    rfl
  rw [run_convert_bytes_arg (P := Try.prog) (w.alloc (.cells #[.int .u8 (48 + (j : Int) % 10)] 5)) 87 5 Try.underlying87 Try.underlying5 w.heap.size 0 1 1 [48 + (j : Int) % 10] rfl hc 9 Try.underlying9]
  have e : (48 + (j : Int) % 10).toNat = 48 + j % 10 := by omega
  simp [strOfNums, dgt, e]

set_option maxRecDepth 100000 in
theorem markText_any (k : Nat) (w : World) (hk : k ≤ 100000000000000) : Calls Try.prog 106 #[.int .i64 k] w fun e w' => e = .returned (.string (mkText k)) ∧ Below w.heap.size w w' := by
  by_cases h0 : k = 0
  · subst h0
    go_enter Try.func106, Try.ntmps106
    go_wp2
    go_ret
    exact ⟨rfl, Below.refl _ _⟩
  · have hp : ¬ (k : Int) ≤ 0 := by omega
    go_enter Try.func106, Try.ntmps106
    go_wp2
    go_loopw [0, 3] (fun q s wr => ∃ (f j : Nat) (acc : List UInt8), j ≤ f ∧ j ≤ k ∧ acc.length + j ≤ k ∧ Hid (digs f j acc = digs k k []) ∧ q = .int .i64 j ∧ s = .string ⟨acc.toArray⟩ ∧ Below w.heap.size w wr) (fun q _ _ => (intOf q).toNat)
    case atStart => exact ⟨k, k, [], Nat.le_refl _, Nat.le_refl _, by simp, rfl, rfl, rfl, Below.refl _ _⟩
    case round =>
      obtain ⟨f, j, acc, hjf, hjk, hal, hd, rfl, rfl, hbel⟩ := hrel
      by_cases hj : 0 < j
      · have hj' : (0 : Int) < j := by omega
        have hcv := conv_digit j wr
        have hl1 : ((acc.length : Int)) ≤ 100000000000000 := by omega
        have hdiv : ((j / 10 : Nat) : Int) = (j : Int) / 10 := by omega
        have HD := Lib.hid hdiv
        clear hdiv
        go_wp2
        go_roundw
        case rel =>
          refine ⟨f - 1, j / 10, dgt j :: acc, by omega, by omega, by simp; omega, ?_, by rw [HD.out], ?_, hbel.alloc hbel.size _⟩
          · unfold Hid at hd ⊢
            rw [← hd, digs_step acc hj hjf]
          · exact congrArg Value.string (ba_append [dgt j] acc)
        case measure => simp [intOf]; omega
      · obtain rfl : j = 0 := by omega
        have HF := Lib.hid hd.out
        go_wp2
        go_ret
        refine ⟨?_, hbel⟩
        have := HF.out
        rw [digs_zero] at this
        rw [mkText, if_neg h0, ← this, show (109 :: acc) = [109] ++ acc from rfl, ← ba_append]
        rfl
end Go.Proofs.Ytnlghcpidlpfkaa
