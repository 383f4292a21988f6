/- Clients: the station with the greatest quota. -/
import Derived.Test.YtnlghcpidlpfkaaClD
set_option linter.unusedVariables false
namespace Go.Proofs.Ytnlghcpidlpfkaa
open Go.RowKit

set_option maxHeartbeats 2000000 in
theorem specBusiestStation_any (A : Option Addr) (n c : Nat) (l : List Cl) (d : Int) (B : Nat) (w : World) (h : Reads w B 5 A n (cls l)) (hB : B ≤ w.heap.size) (hn : n ≤ 1048576) (hsm : ∀ x ∈ l, x.small) (hgd : ∀ x ∈ l, x.good) (hd : I64 d) :
    Calls Try.prog 76 #[.slice A n c, .int .i64 d] w fun e w' => e = .returned (.tuple #[.int .i64 (busyF l d).1, .int .i64 (busyF l d).2]) ∧ Below w.heap.size w w' := by
  rcases h1 : okCls l with _ | _
  · have HO := Lib.hid (busyF_bad (d := d) h1)
    go_enter Try.func76, Try.ntmps76
    go_wp2_with (first | (go_at_call 97; refine (l24Ok_any A n c l B _ h hB hn hsm hgd).mono ?_; rintro e w1 ⟨rfl, b1⟩) | (go_at_call 159; refine (l00In_any _ _ _ _).mono ?_; rintro e w2 ⟨rfl, rfl⟩) | (go_at_call 168; refine (l24Day_any _ _).mono ?_; rintro e w2 ⟨rfl, rfl⟩))
    go_ret2
    rw [HO.out]
    exact ⟨rfl, b1⟩
  · rcases h2 : inR d 0 20000 with _ | _
    · have HO := Lib.hid (busyF_day h1 h2)
      go_enter Try.func76, Try.ntmps76
      go_wp2_with (first | (go_at_call 97; refine (l24Ok_any A n c l B _ h hB hn hsm hgd).mono ?_; rintro e w1 ⟨rfl, b1⟩) | (go_at_call 159; refine (l00In_any _ _ _ _).mono ?_; rintro e w2 ⟨rfl, rfl⟩) | (go_at_call 168; refine (l24Day_any _ _).mono ?_; rintro e w2 ⟨rfl, rfl⟩))
      go_ret2
      rw [HO.out]
      exact ⟨rfl, b1⟩
    · have HN := Lib.hid (busyF_none h1 h2)
      have HP := Lib.hid (busyF_some h1 h2)
      have HK := Lib.hid h1
      go_enter Try.func76, Try.ntmps76
      go_wp2_with (first | (go_at_call 97; refine (l24Ok_any A n c l B _ h hB hn hsm hgd).mono ?_; rintro e w1 ⟨rfl, b1⟩) | (go_at_call 159; refine (l00In_any _ _ _ _).mono ?_; rintro e w2 ⟨rfl, rfl⟩) | (go_at_call 168; refine (l24Day_any _ _).mono ?_; rintro e w2 ⟨rfl, rfl⟩))
      have h2' := h.on hB b1
      have hB2 := Nat.le_trans hB b1.size
      have H1 := Lib.hid b1
      clear h b1 h1 h2 hsm hgd
      go_loopw [6, 7] (fun p q wr => ∃ k : Nat, 1 ≤ k ∧ k ≤ 10 ∧ q = .int .i64 k ∧ p = .int .i64 (bestTo (fun s => quotaSum l s d) k) ∧ Below w1.heap.size w1 wr) (fun _ q _ => 10 - (intOf q).toNat)
      case atStart => exact ⟨1, by omega, by omega, rfl, by rw [bestTo_one], Below.refl _ _⟩
      case round =>
        obtain ⟨k, hk1, hk, rfl, rfl, hbel⟩ := hrel
        have HW1 := Lib.hid hbel
        clear hbel
        by_cases hlt : k < 10
        · have hlt1 : decide ((k : Int) < 10) = true := decide_eq_true (by omega)
          have HB := Lib.hid (bestTo_new (f := fun s => quotaSum l s d) (k := k))
          have HC := Lib.hid (bestTo_old (f := fun s => quotaSum l s d) (k := k))
          have hbb := bestTo_bd (fun s => quotaSum l s d) k
          generalize bestTo (fun s => quotaSum l s d) k = p at *
          go_wp2_with fail
          refine (l24Quota_any A n c l k d B _ (h2'.on hB2 HW1.out) (Nat.le_trans hB2 HW1.out.size) HK.out).mono ?_
          rintro e w1 ⟨rfl, m1, rfl⟩
          have HW2 := Lib.hid (below_drewN HW1.out m1)
          go_wp2_with fail
          refine (l24Quota_any A n c l p d B _ (h2'.on hB2 HW2.out) (Nat.le_trans hB2 HW2.out.size) HK.out).mono ?_
          rintro e w2 ⟨rfl, m2, rfl⟩
          have HW3 := Lib.hid (below_drewN HW2.out m2)
          by_cases hq : quotaSum l p d < quotaSum l k d
          · go_wp2
            go_roundw
            case rel => exact ⟨k + 1, by omega, by omega, by go_num, by rw [HB.out hq], by first | exact HW3.out | (rw [← World.drewN_drewN]; exact HW3.out)⟩
            case measure => simp [intOf]; omega
          · have hq1 : decide (quotaSum l p d < quotaSum l k d) = false := decide_eq_false hq
            go_wp2
            go_roundw
            case rel => exact ⟨k + 1, by omega, by omega, by go_num, by rw [HC.out hq], by first | exact HW3.out | (rw [← World.drewN_drewN]; exact HW3.out)⟩
            case measure => simp [intOf]; omega
        · obtain rfl : k = 10 := by omega
          have hbb := bestTo_bd (fun s => quotaSum l s d) 10
          generalize bestTo (fun s => quotaSum l s d) 10 = p at *
          go_wp2_with fail
          refine (l24Quota_any A n c l p d B _ (h2'.on hB2 HW1.out) (Nat.le_trans hB2 HW1.out.size) HK.out).mono ?_
          rintro e w1 ⟨rfl, m1, rfl⟩
          have HW2 := Lib.hid (below_drewN HW1.out m1)
          by_cases hq : quotaSum l p d = 0
          · rw [hq]
            go_wp2
            go_ret2
            rw [HN.out hq]
            exact ⟨rfl, bnext H1.out HW2.out (Nat.le_refl _)⟩
          · have hq1 : (quotaSum l p d == 0) = false := by simp [hq]
            go_wp2
            go_ret2
            rw [HP.out hq]
            exact ⟨rfl, bnext H1.out HW2.out (Nat.le_refl _)⟩

set_option maxHeartbeats 2000000 in
theorem implBusiestStation_any (A : Option Addr) (n c : Nat) (l : List Cl) (d : Int) (B : Nat) (w : World) (h : Reads w B 5 A n (cls l)) (hB : B ≤ w.heap.size) (hn : n ≤ 1048576) (hsm : ∀ x ∈ l, x.small) (hgd : ∀ x ∈ l, x.good) (hd : I64 d) :
    Calls Try.prog 75 #[.slice A n c, .int .i64 d] w fun e w' => e = .returned (.tuple #[.int .i64 (busyF l d).1, .int .i64 (busyF l d).2]) ∧ Below w.heap.size w w' := by
  rcases h1 : okCls l with _ | _
  · have HO := Lib.hid (busyF_bad (d := d) h1)
    go_enter Try.func75, Try.ntmps75
    go_wp2_with (first | (go_at_call 100; refine (implValidClients_any A n c l B _ h hB hn hsm hgd).mono ?_; rintro e w1 ⟨rfl, b1⟩) | (go_at_call 157; refine (within_any _ _ _ _).mono ?_; rintro e w2 ⟨rfl, rfl⟩) | (go_at_call 166; refine (isContractDay_any _ _).mono ?_; rintro e w2 ⟨rfl, rfl⟩))
    go_ret2
    rw [HO.out]
    exact ⟨rfl, b1⟩
  · rcases h2 : inR d 0 20000 with _ | _
    · have HO := Lib.hid (busyF_day h1 h2)
      go_enter Try.func75, Try.ntmps75
      go_wp2_with (first | (go_at_call 100; refine (implValidClients_any A n c l B _ h hB hn hsm hgd).mono ?_; rintro e w1 ⟨rfl, b1⟩) | (go_at_call 157; refine (within_any _ _ _ _).mono ?_; rintro e w2 ⟨rfl, rfl⟩) | (go_at_call 166; refine (isContractDay_any _ _).mono ?_; rintro e w2 ⟨rfl, rfl⟩))
      go_ret2
      rw [HO.out]
      exact ⟨rfl, b1⟩
    · have HN := Lib.hid (busyF_none h1 h2)
      have HP := Lib.hid (busyF_some h1 h2)
      have HK := Lib.hid h1
      go_enter Try.func75, Try.ntmps75
      go_wp2_with (first | (go_at_call 100; refine (implValidClients_any A n c l B _ h hB hn hsm hgd).mono ?_; rintro e w1 ⟨rfl, b1⟩) | (go_at_call 157; refine (within_any _ _ _ _).mono ?_; rintro e w2 ⟨rfl, rfl⟩) | (go_at_call 166; refine (isContractDay_any _ _).mono ?_; rintro e w2 ⟨rfl, rfl⟩))
      have h2' := h.on hB b1
      have hB2 := Nat.le_trans hB b1.size
      have H1 := Lib.hid b1
      clear h b1 h1 h2 hsm hgd
      go_loopw [6, 16] (fun p q wr => ∃ k : Nat, 0 ≤ k ∧ k ≤ 10 ∧ q = .int .i64 k ∧ p = .int .i64 (bestTo (fun s => quotaSum l s d) k) ∧ Below w1.heap.size w1 wr) (fun _ q _ => 10 - (intOf q).toNat)
      case atStart => exact ⟨0, by omega, by omega, rfl, rfl, Below.refl _ _⟩
      case round =>
        obtain ⟨k, hk1, hk, rfl, rfl, hbel⟩ := hrel
        have HW1 := Lib.hid hbel
        clear hbel
        by_cases hlt : k < 10
        · have hlt1 : decide ((k : Int) < 10) = true := decide_eq_true (by omega)
          have HB := Lib.hid (bestTo_new (f := fun s => quotaSum l s d) (k := k))
          have HC := Lib.hid (bestTo_old (f := fun s => quotaSum l s d) (k := k))
          have hbb := bestTo_bd (fun s => quotaSum l s d) k
          generalize bestTo (fun s => quotaSum l s d) k = p at *
          go_wp2_with fail
          refine (quotaOn_any A n c l k d B _ (h2'.on hB2 HW1.out) (Nat.le_trans hB2 HW1.out.size) HK.out).mono ?_
          rintro e w1 ⟨rfl, b1⟩
          have HW2 := Lib.hid (bnext HW1.out b1 (Nat.le_refl _))
          clear b1
          go_wp2_with fail
          refine (quotaOn_any A n c l p d B _ (h2'.on hB2 HW2.out) (Nat.le_trans hB2 HW2.out.size) HK.out).mono ?_
          rintro e w2 ⟨rfl, b2⟩
          have HW3 := Lib.hid (bnext HW2.out b2 (Nat.le_refl _))
          clear b2
          by_cases hq : quotaSum l p d < quotaSum l k d
          · go_wp2
            go_roundw
            case rel => exact ⟨k + 1, by omega, by omega, by go_num, by rw [HB.out hq], by first | exact HW3.out | (rw [← World.drewN_drewN]; exact HW3.out)⟩
            case measure => simp [intOf]; omega
          · have hq1 : decide (quotaSum l p d < quotaSum l k d) = false := decide_eq_false hq
            go_wp2
            go_roundw
            case rel => exact ⟨k + 1, by omega, by omega, by go_num, by rw [HC.out hq], by first | exact HW3.out | (rw [← World.drewN_drewN]; exact HW3.out)⟩
            case measure => simp [intOf]; omega
        · obtain rfl : k = 10 := by omega
          have hbb := bestTo_bd (fun s => quotaSum l s d) 10
          generalize bestTo (fun s => quotaSum l s d) 10 = p at *
          go_wp2_with fail
          refine (quotaOn_any A n c l p d B _ (h2'.on hB2 HW1.out) (Nat.le_trans hB2 HW1.out.size) HK.out).mono ?_
          rintro e w1 ⟨rfl, b1⟩
          have HW2 := Lib.hid (bnext HW1.out b1 (Nat.le_refl _))
          clear b1
          by_cases hq : quotaSum l p d = 0
          · rw [hq]
            go_wp2
            go_ret2
            rw [HN.out hq]
            exact ⟨rfl, bnext H1.out HW2.out (Nat.le_refl _)⟩
          · have hq1 : (quotaSum l p d == 0) = false := by simp [hq]
            go_wp2
            go_ret2
            rw [HP.out hq]
            exact ⟨rfl, bnext H1.out HW2.out (Nat.le_refl _)⟩
end Go.Proofs.Ytnlghcpidlpfkaa
