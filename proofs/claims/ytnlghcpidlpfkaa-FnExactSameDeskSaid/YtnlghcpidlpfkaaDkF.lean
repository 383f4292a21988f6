/- slices.EqualFunc at runs with the program's sameRun; the program's SameRuns. -/
import Derived.Test.YtnlghcpidlpfkaaDkE
set_option linter.unusedVariables false
namespace Go.Proofs.Ytnlghcpidlpfkaa
open Go.RowKit

set_option maxHeartbeats 4000000 in
theorem eqFuncRn_any (A : Option Addr) (n c : Nat) (rs : List Rn) (A' : Option Addr) (n' c' : Nat) (rs' : List Rn) (B : Nat) (w : World) (h : RunsR w B A n rs) (h' : RunsR w B A' n' rs') (hB : B ≤ w.heap.size) (hn : n ≤ 1048576) (hn' : n' ≤ 1048576) (hsm : SmallR rs) (hsm' : SmallR rs') :
    Calls Try.prog 200 #[.slice A n c, .slice A' n' c', .func (.func 201) #[] #[]] w fun e w' => e = .returned (.bool (sameL sameRn rs rs')) ∧ Below w.heap.size w w' := by
  have hl := Lib.hid h.len
  have hl' := Lib.hid h'.len
  have HSM := Lib.hid hsm
  have HSM' := Lib.hid hsm'
  clear hsm hsm'
  by_cases hnn : n = n'
  · subst hnn
    go_enter Try.func200, Try.ntmps200
    go_wp2
    go_loopw [17] (fun i wr => ∃ k : Nat, k ≤ n ∧ i = .int .i64 k ∧ AllS sameRn rs rs' k ∧ Below w.heap.size w wr) (fun i _ => n - (intOf i).toNat)
    case atStart => exact ⟨0, Nat.zero_le _, rfl, AllS.zero _ _ _, Below.refl _ _⟩
    case round =>
      obtain ⟨k, hk, rfl, hall, hbel⟩ := hrel
      have HA := Lib.hid hall
      have HBe := Lib.hid hbel
      clear hall
      by_cases hlt : k < n
      · obtain ⟨x, b, off, P, m, d, he, rfl, hb, c0, c1, hr, hm⟩ := run_at (h.on hB hbel) hlt
        obtain ⟨y, b', off', P', m', d', he', rfl, hb', d0, d1, hr', hm'⟩ := run_at (h'.on hB hbel) hlt
        have hm2 : m ≤ 1048576 := by have := HSM.out k x he; have := ints_len hr; omega
        have hm2' : m' ≤ 1048576 := by have := HSM'.out k y he'; have := ints_len hr'; omega
        have hi0 : (0 : Int) ≤ k := by omega
        have hi1 : (k : Int) < n := by omega
        have hbw : b < wr.heap.size := by have := hbel.size; omega
        have hbw' : b' < wr.heap.size := by have := hbel.size; omega
        have HE := Lib.hid he
        have HE' := Lib.hid he'
        have HBw := Lib.hid (Nat.le_trans hB hbel.size)
        have HC := Lib.hid (show ∀ W, Below wr.heap.size wr W → Calls Try.prog 201 #[.agg #[.slice P m d, .int .i64 x.st], .agg #[.slice P' m' d', .int .i64 y.st]] W fun e w' => e = .returned (.bool (sameRn x y)) ∧ Below wr.heap.size wr w' from fun W hW =>
          (sameRun_any P P' m d m' d' B x y W (hr.on HBw.out hW) (hr'.on HBw.out hW) (Nat.le_trans HBw.out hW.size) hm2 hm2').mono fun e w' ⟨h1, h2⟩ => ⟨h1, bnext hW h2 (Nat.le_refl _)⟩)
        clear he he' h h' hbel hr hr'
        go_wp2_with fail
        refine (HC.out _ ?_).mono ?_
        · repeat (first | exact Below.refl _ _ | refine Below.alloc ?_ (by simp) _ | refine Below.setCell ?_ (by simp) _)
        rintro e w1 ⟨rfl, hb1⟩
        have HF := Lib.hid (bnext HBe.out hb1 (Nat.le_refl _))
        clear hb1 c0 c1 d0 d1
        rcases hs : sameRn x y with _ | _
        · have HO := Lib.hid (show sameL sameRn rs rs' = false from sameL_bad HE.out HE'.out hs)
          go_wp2
          go_ret
          exact ⟨ret_bool HO.out.symm, HF.out⟩
        · have HT := Lib.hid hs
          go_wp2
          go_roundw
          case rel => exact ⟨k + 1, by omega, by go_num, HA.out.step HE.out HE'.out HT.out, HF.out⟩
          case measure => simp [intOf]; omega
      · obtain rfl : k = n := by omega
        have HO := Lib.hid (HA.out.done hl.out hl'.out)
        go_wp2
        go_ret
        exact ⟨ret_bool HO.out.symm, HBe.out⟩
  · have HO := Lib.hid (show sameL sameRn rs rs' = false from sameL_len (by rw [hl.out, hl'.out]; exact hnn))
    have hne : ((n : Int) != (n' : Int)) = true := by rw [bne_iff_ne]; omega
    clear hnn
    go_enter Try.func200, Try.ntmps200
    go_wp2
    go_ret
    exact ⟨ret_bool HO.out.symm, Below.refl _ _⟩

theorem implSameRuns_any (A : Option Addr) (n c : Nat) (rs : List Rn) (A' : Option Addr) (n' c' : Nat) (rs' : List Rn) (B : Nat) (w : World) (h : RunsR w B A n rs) (h' : RunsR w B A' n' rs') (hB : B ≤ w.heap.size) (hn : n ≤ 1048576) (hn' : n' ≤ 1048576) (hsm : SmallR rs) (hsm' : SmallR rs') :
    Calls Try.prog 127 #[.slice A n c, .slice A' n' c'] w fun e w' => e = .returned (.bool (sameL sameRn rs rs')) ∧ Below w.heap.size w w' := by
  go_enter Try.func127, Try.ntmps127
  go_wp2_with fail
  refine (eqFuncRn_any A n c rs A' n' c' rs' B w h h' hB hn hn' hsm hsm').mono ?_
  rintro e w1 ⟨rfl, b1⟩
  go_wp2
  go_ret
  exact ⟨rfl, b1⟩
end Go.Proofs.Ytnlghcpidlpfkaa
