/- Clients: the quota of a station on a day. -/
import Derived.Test.YtnlghcpidlpfkaaClC
set_option linter.unusedVariables false
namespace Go.Proofs.Ytnlghcpidlpfkaa
open Go.RowKit

def quotaF (l : List Cl) (st d : Int) : Int × Int := if okCls l = true then (if inR st 0 9 = true then (if inR d 0 20000 = true then (quotaSum l st d, 0) else (0, 2)) else (0, 2)) else (0, 1)
theorem quotaF_bad {l : List Cl} {st d : Int} (h : okCls l = false) : quotaF l st d = (0, 1) := by simp only [quotaF, h, Bool.false_eq_true, if_false]
theorem quotaF_st {l : List Cl} {st d : Int} (h : okCls l = true) (h2 : inR st 0 9 = false) : quotaF l st d = (0, 2) := by simp only [quotaF, h, h2, Bool.false_eq_true, if_false, if_true]
theorem quotaF_day {l : List Cl} {st d : Int} (h : okCls l = true) (h2 : inR st 0 9 = true) (h3 : inR d 0 20000 = false) : quotaF l st d = (0, 2) := by simp only [quotaF, h, h2, h3, Bool.false_eq_true, if_false, if_true]
theorem quotaF_ok {l : List Cl} {st d : Int} (h : okCls l = true) (h2 : inR st 0 9 = true) (h3 : inR d 0 20000 = true) : quotaF l st d = (quotaSum l st d, 0) := by simp only [quotaF, h, h2, h3, if_true]

theorem specQuotaOn_any (A : Option Addr) (n c : Nat) (l : List Cl) (st d : Int) (B : Nat) (w : World) (h : Reads w B 5 A n (cls l)) (hB : B ≤ w.heap.size) (hn : n ≤ 1048576) (hsm : ∀ x ∈ l, x.small) (hgd : ∀ x ∈ l, x.good) (hst : I64 st) (hd : I64 d) :
    Calls Try.prog 74 #[.slice A n c, .int .i64 st, .int .i64 d] w fun e w' => e = .returned (.tuple #[.int .i64 (quotaF l st d).1, .int .i64 (quotaF l st d).2]) ∧ Below w.heap.size w w' := by
  rcases h1 : okCls l with _ | _
  · have HO := Lib.hid (quotaF_bad (st := st) (d := d) h1)
    go_enter Try.func74, Try.ntmps74
    go_wp2_with (first | (go_at_call 97; refine (l24Ok_any A n c l B _ h hB hn hsm hgd).mono ?_; rintro e w1 ⟨rfl, b1⟩) | (go_at_call 159; refine (l00In_any _ _ _ _).mono ?_; rintro e w2 ⟨rfl, rfl⟩) | (go_at_call 168; refine (l24Day_any _ _).mono ?_; rintro e w2 ⟨rfl, rfl⟩))
    go_ret2
    rw [HO.out]
    exact ⟨rfl, b1⟩
  · rcases h2 : inR st 0 9 with _ | _
    · have HO := Lib.hid (quotaF_st (d := d) h1 h2)
      go_enter Try.func74, Try.ntmps74
      go_wp2_with (first | (go_at_call 97; refine (l24Ok_any A n c l B _ h hB hn hsm hgd).mono ?_; rintro e w1 ⟨rfl, b1⟩) | (go_at_call 159; refine (l00In_any _ _ _ _).mono ?_; rintro e w2 ⟨rfl, rfl⟩) | (go_at_call 168; refine (l24Day_any _ _).mono ?_; rintro e w2 ⟨rfl, rfl⟩))
      go_ret2
      rw [HO.out]
      exact ⟨rfl, b1⟩
    · rcases h3 : inR d 0 20000 with _ | _
      · have HO := Lib.hid (quotaF_day h1 h2 h3)
        go_enter Try.func74, Try.ntmps74
        go_wp2_with (first | (go_at_call 97; refine (l24Ok_any A n c l B _ h hB hn hsm hgd).mono ?_; rintro e w1 ⟨rfl, b1⟩) | (go_at_call 159; refine (l00In_any _ _ _ _).mono ?_; rintro e w2 ⟨rfl, rfl⟩) | (go_at_call 168; refine (l24Day_any _ _).mono ?_; rintro e w2 ⟨rfl, rfl⟩))
        go_ret2
        rw [HO.out]
        exact ⟨rfl, b1⟩
      · have HO := Lib.hid (quotaF_ok h1 h2 h3)
        go_enter Try.func74, Try.ntmps74
        go_wp2_with (first | (go_at_call 97; refine (l24Ok_any A n c l B _ h hB hn hsm hgd).mono ?_; rintro e w1 ⟨rfl, b1⟩) | (go_at_call 159; refine (l00In_any _ _ _ _).mono ?_; rintro e w2 ⟨rfl, rfl⟩) | (go_at_call 168; refine (l24Day_any _ _).mono ?_; rintro e w2 ⟨rfl, rfl⟩))
        refine (l24Quota_any A n c l st d B _ (h.on hB b1) (Nat.le_trans hB b1.size) h1).mono ?_
        rintro e w2 ⟨rfl, m2, rfl⟩
        replace b1 := below_drewN b1 m2
        go_wp2
        go_ret2
        rw [HO.out]
        exact ⟨rfl, b1⟩

theorem implQuotaOn_any (A : Option Addr) (n c : Nat) (l : List Cl) (st d : Int) (B : Nat) (w : World) (h : Reads w B 5 A n (cls l)) (hB : B ≤ w.heap.size) (hn : n ≤ 1048576) (hsm : ∀ x ∈ l, x.small) (hgd : ∀ x ∈ l, x.good) (hst : I64 st) (hd : I64 d) :
    Calls Try.prog 73 #[.slice A n c, .int .i64 st, .int .i64 d] w fun e w' => e = .returned (.tuple #[.int .i64 (quotaF l st d).1, .int .i64 (quotaF l st d).2]) ∧ Below w.heap.size w w' := by
  rcases h1 : okCls l with _ | _
  · have HO := Lib.hid (quotaF_bad (st := st) (d := d) h1)
    go_enter Try.func73, Try.ntmps73
    go_wp2_with (first | (go_at_call 100; refine (implValidClients_any A n c l B _ h hB hn hsm hgd).mono ?_; rintro e w1 ⟨rfl, b1⟩) | (go_at_call 157; refine (within_any _ _ _ _).mono ?_; rintro e w2 ⟨rfl, rfl⟩) | (go_at_call 166; refine (isContractDay_any _ _).mono ?_; rintro e w2 ⟨rfl, rfl⟩))
    go_ret2
    rw [HO.out]
    exact ⟨rfl, b1⟩
  · rcases h2 : inR st 0 9 with _ | _
    · have HO := Lib.hid (quotaF_st (d := d) h1 h2)
      go_enter Try.func73, Try.ntmps73
      go_wp2_with (first | (go_at_call 100; refine (implValidClients_any A n c l B _ h hB hn hsm hgd).mono ?_; rintro e w1 ⟨rfl, b1⟩) | (go_at_call 157; refine (within_any _ _ _ _).mono ?_; rintro e w2 ⟨rfl, rfl⟩) | (go_at_call 166; refine (isContractDay_any _ _).mono ?_; rintro e w2 ⟨rfl, rfl⟩))
      go_ret2
      rw [HO.out]
      exact ⟨rfl, b1⟩
    · rcases h3 : inR d 0 20000 with _ | _
      · have HO := Lib.hid (quotaF_day h1 h2 h3)
        go_enter Try.func73, Try.ntmps73
        go_wp2_with (first | (go_at_call 100; refine (implValidClients_any A n c l B _ h hB hn hsm hgd).mono ?_; rintro e w1 ⟨rfl, b1⟩) | (go_at_call 157; refine (within_any _ _ _ _).mono ?_; rintro e w2 ⟨rfl, rfl⟩) | (go_at_call 166; refine (isContractDay_any _ _).mono ?_; rintro e w2 ⟨rfl, rfl⟩))
        go_ret2
        rw [HO.out]
        exact ⟨rfl, b1⟩
      · have HO := Lib.hid (quotaF_ok h1 h2 h3)
        go_enter Try.func73, Try.ntmps73
        go_wp2_with (first | (go_at_call 100; refine (implValidClients_any A n c l B _ h hB hn hsm hgd).mono ?_; rintro e w1 ⟨rfl, b1⟩) | (go_at_call 157; refine (within_any _ _ _ _).mono ?_; rintro e w2 ⟨rfl, rfl⟩) | (go_at_call 166; refine (isContractDay_any _ _).mono ?_; rintro e w2 ⟨rfl, rfl⟩))
        refine (quotaOn_any A n c l st d B _ (h.on hB b1) (Nat.le_trans hB b1.size) h1).mono ?_
        rintro e w2 ⟨rfl, b2⟩
        replace b1 := bnext b1 b2 (Nat.le_refl _)
        go_wp2
        go_ret2
        rw [HO.out]
        exact ⟨rfl, b1⟩

/-- The first station with the greatest quota. -/
def bestTo (f : Int → Int) : Nat → Int
  | 0 => 0
  | k + 1 => if f (bestTo f k) < f k then (k : Int) else bestTo f k
theorem bestTo_one (f : Int → Int) : bestTo f 1 = 0 := by simp [bestTo]
theorem bestTo_new {f : Int → Int} {k : Nat} (h : f (bestTo f k) < f k) : bestTo f (k + 1) = k := by simp [bestTo, h]
theorem bestTo_old {f : Int → Int} {k : Nat} (h : ¬ f (bestTo f k) < f k) : bestTo f (k + 1) = bestTo f k := by simp [bestTo, h]
theorem bestTo_bd (f : Int → Int) (k : Nat) : 0 ≤ bestTo f k ∧ bestTo f k ≤ k := by
  induction k with
  | zero => simp [bestTo]
  | succ k ih => simp only [bestTo]; split <;> omega
def busyF (l : List Cl) (d : Int) : Int × Int := if okCls l = true then (if inR d 0 20000 = true then (if quotaSum l (bestTo (fun s => quotaSum l s d) 10) d = 0 then (0, 3) else (bestTo (fun s => quotaSum l s d) 10, 0)) else (0, 2)) else (0, 1)
theorem busyF_bad {l : List Cl} {d : Int} (h : okCls l = false) : busyF l d = (0, 1) := by simp only [busyF, h, Bool.false_eq_true, if_false]
theorem busyF_day {l : List Cl} {d : Int} (h : okCls l = true) (h2 : inR d 0 20000 = false) : busyF l d = (0, 2) := by simp only [busyF, h, h2, Bool.false_eq_true, if_false, if_true]
theorem busyF_none {l : List Cl} {d : Int} (h : okCls l = true) (h2 : inR d 0 20000 = true) (h3 : quotaSum l (bestTo (fun s => quotaSum l s d) 10) d = 0) : busyF l d = (0, 3) := by simp only [busyF, h, h2, h3, if_true]
theorem busyF_some {l : List Cl} {d : Int} (h : okCls l = true) (h2 : inR d 0 20000 = true) (h3 : ¬ quotaSum l (bestTo (fun s => quotaSum l s d) 10) d = 0) : busyF l d = (bestTo (fun s => quotaSum l s d) 10, 0) := by simp only [busyF, h, h2, h3, if_true, if_false]
end Go.Proofs.Ytnlghcpidlpfkaa
