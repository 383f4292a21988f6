/- Lists of runs compared. -/
import Derived.Test.YtgcepomehgedfaaDoorDkS
set_option linter.unusedVariables false
namespace Go.Proofs.YtgcepomehgedfaaDoor
open Go.RowKit

def sameRn (x y : Rn) : Bool := x.st == y.st && sameL sameI x.way y.way
theorem sameRn_refl (x : Rn) : sameRn x x = true := by simp [sameRn, sameL_refl sameI_refl]
theorem run_same {w : World} {B n n' k : Nat} {A A' : Option Addr} {l l' : List Int} (h : Reads w B 1 A n (ints l)) (h' : Reads w B 1 A' n' (ints l')) : True := trivial

theorem eqRun_same (A A' : Option Addr) (m c m' c' B : Nat) (st : Int) (l : List Int) (w : World) (h : Reads w B 1 A m (ints l)) (h' : Reads w B 1 A' m' (ints l)) (hB : B ≤ w.heap.size) (hm : m ≤ 1048576) :
    Calls Tryd.prog 26 #[.agg #[.slice A m c, .int .i64 st], .agg #[.slice A' m' c', .int .i64 st]] w fun e w' => e = .returned (.bool true) ∧ Below w.heap.size w w' := by
  obtain rfl : m = m' := by have := ints_len h; have := ints_len h'; omega
  have hb : Below w.heap.size w ((w.alloc (.cells #[.slice A m c, .int .i64 st] 54)).alloc (.cells #[.slice A' m c', .int .i64 st] 54)) := ((Below.refl _ _).alloc (Nat.le_refl _) _).alloc (by simp) _
  have HR := Lib.hid (h.on hB hb)
  have HR' := Lib.hid (h'.on hB hb)
  have HB := Lib.hid hb
  have HT := Lib.hid (sameL_refl sameI_refl l)
  clear h h' hb
  go_enter Tryd.func26, Tryd.ntmps26
  go_wp2_with fail
  refine (lawInt64S_any A m c l A' m c' l B _ HR.out HR'.out hm hm).mono ?_
  rintro e w1 ⟨rfl, q, rfl⟩
  rw [HT.out]
  go_wp2
  go_ret
  exact ⟨rfl, below_drewN HB.out _⟩

set_option maxHeartbeats 4000000 in
theorem eqRunS_same (A A' : Option Addr) (n c c' B : Nat) (rs : List Rn) (w : World) (h : RunsR w B A n rs) (h' : RunsR w B A' n rs) (hn : n ≤ 1048576) (hB : B ≤ w.heap.size) (hsm : SmallR rs) :
    Calls Tryd.prog 13 #[.slice A n c, .slice A' n c'] w fun e w' => e = .returned (.bool true) ∧ Below w.heap.size w w' := by
  have HSM := Lib.hid hsm
  clear hsm
  go_enter Tryd.func13, Tryd.ntmps13
  go_wp2
  go_loopw [5] (fun i wr => ∃ k : Nat, k ≤ n ∧ i = .int .i64 k ∧ Below w.heap.size w wr) (fun i _ => n - (intOf i).toNat)
  case atStart => exact ⟨0, Nat.zero_le _, rfl, Below.refl _ _⟩
  case round =>
    obtain ⟨k, hk, rfl, hbel⟩ := hrel
    by_cases hlt : k < n
    · obtain ⟨x, b, off, P, m, d, he, rfl, hb, c0, c1, hr, hm⟩ := run_at (h.on hB hbel) hlt
      obtain ⟨x', b', off', P', m', d', he', rfl, hb', d0, d1, hr', hm'⟩ := run_at (h'.on hB hbel) hlt
      obtain rfl : x = x' := by rw [he] at he'; injection he'
      have hm2 : m ≤ 1048576 := by have := HSM.out k x he; have := ints_len hr; omega
      have HB := Lib.hid hbel
      have HBw := Lib.hid (Nat.le_trans hB hbel.size)
      have HC := Lib.hid (show ∀ W, Below wr.heap.size wr W → Calls Tryd.prog 26 #[.agg #[.slice P m d, .int .i64 x.st], .agg #[.slice P' m' d', .int .i64 x.st]] W fun e w' => e = .returned (.bool true) ∧ Below W.heap.size W w' from fun W hW =>
        eqRun_same P P' m d m' d' B x.st x.way W (hr.on HBw.out hW) (hr'.on HBw.out hW) (Nat.le_trans HBw.out hW.size) hm2)
      have hlt' : (k : Int) < n := by omega
      have hk0 : (0 : Int) ≤ k := by omega
      clear he he' hbel h h' hr hr'
      go_wp2_with fail
      go_region_held3 (fun W => Below wr.heap.size wr W ∧ W.cell? ⟨b, off + k * 2, none⟩ = some (.slice P m d) ∧ W.cell? ⟨b, off + k * 2 + 1, none⟩ = some (.int .i64 x.st) ∧ W.cell? ⟨b', off' + k * 2, none⟩ = some (.slice P' m' d') ∧ W.cell? ⟨b', off' + k * 2 + 1, none⟩ = some (.int .i64 x.st)) (first | exact ⟨(Below.refl _ _).drew, c0, c1, d0, d1⟩ | (go_split_ands; exact ⟨bnext (by assumption) hb1 (Nat.le_refl _), cell_on hb1 (by assumption), cell_on hb1 (by assumption), cell_on hb1 (by assumption), cell_on hb1 (by assumption)⟩)) (first | (go_at_call 26; refine (HC.out _ (by go_split_ands; assumption)).mono ?_; rintro e w1 ⟨rfl, hb1⟩))
      rename_i hS
      have HS := Lib.hid (bnext HB.out hS.1 (Nat.le_refl _))
      clear hS hb1 c0 c1 d0 d1
      go_wp2
      go_roundw
      case rel => exact ⟨k + 1, by omega, by go_num, HS.out⟩
      case measure => simp [intOf]; omega
    · obtain rfl : k = n := by omega
      go_wp2
      go_ret
      exact ⟨rfl, hbel⟩

end Go.Proofs.YtgcepomehgedfaaDoor
