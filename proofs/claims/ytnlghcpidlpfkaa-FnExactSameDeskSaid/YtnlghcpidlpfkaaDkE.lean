/- Lists of runs compared. -/
import Derived.Test.YtnlghcpidlpfkaaDkS
set_option linter.unusedVariables false
namespace Go.Proofs.Ytnlghcpidlpfkaa
open Go.RowKit

def sameRn (x y : Rn) : Bool := x.st == y.st && sameL sameI x.way y.way
theorem sameRn_refl (x : Rn) : sameRn x x = true := by simp [sameRn, sameL_refl sameI_refl]
theorem run_same {w : World} {B n n' k : Nat} {A A' : Option Addr} {l l' : List Int} (h : Reads w B 1 A n (ints l)) (h' : Reads w B 1 A' n' (ints l')) : True := trivial

theorem eqRun_same (A A' : Option Addr) (m c m' c' B : Nat) (st : Int) (l : List Int) (w : World) (h : Reads w B 1 A m (ints l)) (h' : Reads w B 1 A' m' (ints l)) (hB : B ≤ w.heap.size) (hm : m ≤ 1048576) :
    Calls Try.prog 203 #[.agg #[.slice A m c, .int .i64 st], .agg #[.slice A' m' c', .int .i64 st]] w fun e w' => e = .returned (.bool true) ∧ Below w.heap.size w w' := by
  obtain rfl : m = m' := by have := ints_len h; have := ints_len h'; omega
  have hb : Below w.heap.size w ((w.alloc (.cells #[.slice A m c, .int .i64 st] 203)).alloc (.cells #[.slice A' m c', .int .i64 st] 203)) := ((Below.refl _ _).alloc (Nat.le_refl _) _).alloc (by simp) _
  have HR := Lib.hid (h.on hB hb)
  have HR' := Lib.hid (h'.on hB hb)
  have HB := Lib.hid hb
  have HT := Lib.hid (sameL_refl sameI_refl l)
  clear h h' hb
  go_enter Try.func203, Try.ntmps203
  go_wp2_with fail
  refine (lawInt64S_any A m c l A' m c' l B _ HR.out HR'.out hm hm).mono ?_
  rintro e w1 ⟨rfl, q, rfl⟩
  rw [HT.out]
  go_wp2
  go_ret
  exact ⟨rfl, below_drewN HB.out _⟩

set_option maxHeartbeats 4000000 in
theorem eqRunS_same (A A' : Option Addr) (n c c' B : Nat) (rs : List Rn) (w : World) (h : RunsR w B A n rs) (h' : RunsR w B A' n rs) (hn : n ≤ 1048576) (hB : B ≤ w.heap.size) (hsm : SmallR rs) :
    Calls Try.prog 130 #[.slice A n c, .slice A' n c'] w fun e w' => e = .returned (.bool true) ∧ Below w.heap.size w w' := by
  have HSM := Lib.hid hsm
  clear hsm
  go_enter Try.func130, Try.ntmps130
  go_wp2
  go_loopw [5] (fun i wr => ∃ k : Nat, k ≤ n ∧ i = .int .i64 k ∧ Below w.heap.size w wr) (fun i _ => n - (intOf i).toNat)
  case atStart => exact ⟨0, Nat.zero_le _, rfl, Below.refl _ _⟩
  case round =>
    obtain ⟨k, hk, rfl, hbel⟩ := hrel
    by_cases hlt : k < n
    · obtain ⟨x, b, off, P, m, d, he, rfl, hb, c0, c1, hr, hm⟩ := run_at (h.on hB hbel) hlt
      obtain ⟨x', b', off', P', m', d', he', rfl, hb', d0, d1, hr', hm'⟩ := run_at (h'.on hB hbel) hlt
      obtain rfl : x = x' := by rw [he] at he'; injection he'
      have hm2 : m ≤ 1048576 := by have := HSM.out k x he; have := ints_len hr; omega
      have HB := Lib.hid hbel
      have HBw := Lib.hid (Nat.le_trans hB hbel.size)
      have HC := Lib.hid (show ∀ W, Below wr.heap.size wr W → Calls Try.prog 203 #[.agg #[.slice P m d, .int .i64 x.st], .agg #[.slice P' m' d', .int .i64 x.st]] W fun e w' => e = .returned (.bool true) ∧ Below W.heap.size W w' from fun W hW =>
        eqRun_same P P' m d m' d' B x.st x.way W (hr.on HBw.out hW) (hr'.on HBw.out hW) (Nat.le_trans HBw.out hW.size) hm2)
      have hlt' : (k : Int) < n := by omega
      have hk0 : (0 : Int) ≤ k := by omega
      clear he he' hbel h h' hr hr'
      go_wp2_with fail
      go_region_held3 (fun W => Below wr.heap.size wr W ∧ W.cell? ⟨b, off + k * 2, none⟩ = some (.slice P m d) ∧ W.cell? ⟨b, off + k * 2 + 1, none⟩ = some (.int .i64 x.st) ∧ W.cell? ⟨b', off' + k * 2, none⟩ = some (.slice P' m' d') ∧ W.cell? ⟨b', off' + k * 2 + 1, none⟩ = some (.int .i64 x.st)) (first | exact ⟨(Below.refl _ _).drew, c0, c1, d0, d1⟩ | (go_split_ands; exact ⟨bnext (by assumption) hb1 (Nat.le_refl _), cell_on hb1 (by assumption), cell_on hb1 (by assumption), cell_on hb1 (by assumption), cell_on hb1 (by assumption)⟩)) (first | (go_at_call 203; refine (HC.out _ (by go_split_ands; assumption)).mono ?_; rintro e w1 ⟨rfl, hb1⟩))
      rename_i hS
      have HS := Lib.hid (bnext HB.out hS.1 (Nat.le_refl _))
      clear hS hb1 c0 c1 d0 d1
      go_wp2
      go_roundw
      case rel => exact ⟨k + 1, by omega, by go_num, HS.out⟩
      case measure => simp [intOf]; omega
    · obtain rfl : k = n := by omega
      go_wp2
      go_ret
      exact ⟨rfl, hbel⟩

set_option maxHeartbeats 4000000 in
theorem specSameRuns_any (A : Option Addr) (n c : Nat) (rs : List Rn) (A' : Option Addr) (n' c' : Nat) (rs' : List Rn) (B : Nat) (w : World) (h : RunsR w B A n rs) (h' : RunsR w B A' n' rs') (hn : n ≤ 1048576) (hn' : n' ≤ 1048576) (hsm : SmallR rs) (hsm' : SmallR rs') :
    Calls Try.prog 121 #[.slice A n c, .slice A' n' c'] w fun e w' => e = .returned (.bool (sameL sameRn rs rs')) ∧ ∃ q, w' = w.drewN q := by
  have hl := Lib.hid h.len
  have hl' := Lib.hid h'.len
  have HSM := Lib.hid hsm
  have HSM' := Lib.hid hsm'
  clear hsm hsm'
  by_cases hnn : n = n'
  · subst hnn
    go_enter Try.func121, Try.ntmps121
    go_wp2
    go_loopw [5] (fun i wr => ∃ k q : Nat, k ≤ n ∧ i = .int .i64 k ∧ AllS sameRn rs rs' k ∧ wr = w.drewN q) (fun i _ => n - (intOf i).toNat)
    case atStart => exact ⟨0, 0, Nat.zero_le _, rfl, AllS.zero _ _ _, rfl⟩
    case round =>
      obtain ⟨k, q, hk, rfl, hall, hwr⟩ := hrel
      have HA := Lib.hid hall
      have HQ := Lib.hid hwr
      have hz := h.drewN q
      have hz' := h'.drewN q
      rw [← hwr] at hz hz'
      clear hall hwr
      by_cases hlt : k < n
      · obtain ⟨x, b, off, P, m, d, he, rfl, hb, c0, c1, hr, hm⟩ := run_at hz hlt
        obtain ⟨y, b', off', P', m', d', he', rfl, hb', d0, d1, hr', hm'⟩ := run_at hz' hlt
        have hm2 : m ≤ 1048576 := by have := HSM.out k x he; have := ints_len hr; omega
        have hm2' : m' ≤ 1048576 := by have := HSM'.out k y he'; have := ints_len hr'; omega
        have hi0 : (0 : Int) ≤ k := by omega
        have hi1 : (k : Int) < n := by omega
        have HE := Lib.hid he
        have HE' := Lib.hid he'
        have HR := Lib.hid hr
        have HR' := Lib.hid hr'
        clear he he' h h' hz hz' hr hr'
        rcases hb0 : (x.st == y.st) with _ | _
        · have HO := Lib.hid (show sameL sameRn rs rs' = false from sameL_bad HE.out HE'.out (by simp [sameRn, hb0]))
          have hne : ¬ x.st = y.st := by simpa using hb0
          have hne2 : (x.st != y.st) = true := by simp [hne]
          clear hb0
          go_wp2_with fail
          go_quiet (fail)
          go_wp2
          go_ret
          exact ⟨ret_bool HO.out.symm, _, by rw [HQ.out]; exact World.drewN_drewN _ _ _⟩
        · have HC := Lib.hid (show ∀ W, (∃ j, W = wr.drewN j) → Calls Try.prog 120 #[.slice P m d, .slice P' m' d'] W fun e w' => e = .returned (.bool (sameL sameI x.way y.way)) ∧ ∃ q, w' = W.drewN q from fun W hW => by
            obtain ⟨j, rfl⟩ := hW
            exact l00Same_any _ _ _ _ _ _ _ _ B _ (HR.out.keep (w' := wr.drewN j) fun _ _ => rfl) (HR'.out.keep (w' := wr.drewN j) fun _ _ => rfl) hm2 hm2')
          have heq : x.st = y.st := by simpa using hb0
          rw [heq] at c1
          have HO := Lib.hid (show sameRn x y = sameL sameI x.way y.way by simp [sameRn, heq])
          clear hb0 heq
          rcases hb1 : sameL sameI x.way y.way with _ | _
          · rw [hb1] at HC HO
            have HO2 := Lib.hid (show sameL sameRn rs rs' = false from sameL_bad HE.out HE'.out HO.out)
            go_wp2_with fail
            go_quiet ((go_at_call 120; exact Calls.quiet_of (HC.out _ ⟨_, rfl⟩)))
            go_wp2
            go_ret
            exact ⟨ret_bool HO2.out.symm, _, by rw [HQ.out]; exact World.drewN_drewN _ _ _⟩
          · rw [hb1] at HC HO
            go_wp2_with fail
            go_quiet ((go_at_call 120; exact Calls.quiet_of (HC.out _ ⟨_, rfl⟩)))
            go_wp2
            go_roundw
            case rel => exact ⟨k + 1, _, by omega, by go_num, HA.out.step HE.out HE'.out HO.out, by rw [HQ.out]; exact World.drewN_drewN _ _ _⟩
            case measure => simp [intOf]; omega
      · obtain rfl : k = n := by omega
        have HO := Lib.hid (HA.out.done hl.out hl'.out)
        go_wp2
        go_ret
        exact ⟨ret_bool HO.out.symm, q, HQ.out⟩
  · have HO := Lib.hid (show sameL sameRn rs rs' = false from sameL_len (by rw [hl.out, hl'.out]; exact hnn))
    have hne : ((n : Int) != (n' : Int)) = true := by rw [bne_iff_ne]; omega
    clear hnn
    go_enter Try.func121, Try.ntmps121
    go_wp2
    go_ret
    exact ⟨ret_bool HO.out.symm, 0, rfl⟩

theorem sameRun_any (A A' : Option Addr) (m c m' c' B : Nat) (x y : Rn) (w : World) (h : Reads w B 1 A m (ints x.way)) (h' : Reads w B 1 A' m' (ints y.way)) (hB : B ≤ w.heap.size) (hm : m ≤ 1048576) (hm' : m' ≤ 1048576) :
    Calls Try.prog 201 #[.agg #[.slice A m c, .int .i64 x.st], .agg #[.slice A' m' c', .int .i64 y.st]] w fun e w' => e = .returned (.bool (sameRn x y)) ∧ Below w.heap.size w w' := by
  have hb : Below w.heap.size w ((w.alloc (.cells #[.slice A m c, .int .i64 x.st] 203)).alloc (.cells #[.slice A' m' c', .int .i64 y.st] 203)) := ((Below.refl _ _).alloc (Nat.le_refl _) _).alloc (by simp) _
  have HR := Lib.hid (h.on hB hb)
  have HR' := Lib.hid (h'.on hB hb)
  have HB := Lib.hid hb
  clear h h' hb
  rcases hb0 : (x.st == y.st) with _ | _
  · have HO := Lib.hid (show sameRn x y = false by simp [sameRn, hb0])
    go_enter Try.func201, Try.ntmps201
    go_wp2
    go_ret
    exact ⟨ret_bool HO.out.symm, HB.out⟩
  · have HO := Lib.hid (show sameRn x y = sameL sameI x.way y.way by simp [sameRn, hb0])
    go_enter Try.func201, Try.ntmps201
    go_wp2_with fail
    refine (eqI64S_any A m c x.way A' m' c' y.way B _ HR.out HR'.out hm hm').mono ?_
    rintro e w1 ⟨rfl, q, rfl⟩
    rw [← HO.out]
    go_wp2
    go_ret
    exact ⟨rfl, below_drewN HB.out _⟩
end Go.Proofs.Ytnlghcpidlpfkaa
