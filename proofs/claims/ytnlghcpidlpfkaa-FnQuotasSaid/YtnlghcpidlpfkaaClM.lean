/- Clients: who is active on a day. -/
import Derived.Test.YtnlghcpidlpfkaaClK
set_option linter.unusedVariables false
namespace Go.Proofs.Ytnlghcpidlpfkaa
open Go.RowKit

def activeOnF (l : List Cl) (dd : Int) : List ByteArray × Int := if okCls l = true then (if (inR dd 0 20000) = true then (namesTo (fun y => active y dd) l l.length, 0) else ([], 2)) else ([], 1)
theorem activeOnF_bad {l : List Cl} {dd : Int} (h : okCls l = false) : activeOnF l dd = ([], 1) := by simp only [activeOnF, h, Bool.false_eq_true, if_false]
theorem activeOnF_day {l : List Cl} {dd : Int} (h : okCls l = true) (h2 : (inR dd 0 20000) = false) : activeOnF l dd = ([], 2) := by simp only [activeOnF, h, h2, Bool.false_eq_true, if_false, if_true]
theorem activeOnF_ok {l : List Cl} {dd : Int} (h : okCls l = true) (h2 : (inR dd 0 20000) = true) : activeOnF l dd = (namesTo (fun y => active y dd) l l.length, 0) := by simp only [activeOnF, h, h2, if_true]
theorem cntActiveOn_len {l : List Cl} {dd : Int} {m : Nat} (h : (strs (activeOnF l dd).1).length = m * 1) : m ≤ 1048576 := by
  rw [strs_length] at h
  rcases h1 : okCls l with _ | _
  · rw [activeOnF_bad h1] at h; simp at h; omega
  · rcases h2 : (inR dd 0 20000) with _ | _
    · rw [activeOnF_day h1 h2] at h; simp at h; omega
    · rw [activeOnF_ok h1 h2] at h
      have h3 := namesTo_len (fun y => active y dd) l l.length
      have h4 := okCls_len h1
      simp only at h
      omega

set_option maxHeartbeats 2000000 in
theorem specActiveOn_any (A : Option Addr) (n c : Nat) (l : List Cl) (dd : Int) (B : Nat) (w : World) (h : Reads w B 5 A n (cls l)) (hB : B ≤ w.heap.size) (hn : n ≤ 1048576) (hsm : ∀ x ∈ l, x.small) (hgd : ∀ x ∈ l, x.good) (hd : I64 dd) :
    Calls Try.prog 84 #[.slice A n c, .int .i64 dd] w fun e w' => ∃ A' m d, e = .returned (.tuple #[.slice A' m d, .int .i64 (activeOnF l dd).2]) ∧ Sl w' w.heap.size w'.heap.size 9 1 A' m d (strs (activeOnF l dd).1) ∧ Below w.heap.size w w' := by
  rcases h1 : okCls l with _ | _
  · have HO := Lib.hid (activeOnF_bad (dd := dd) h1)
    go_enter Try.func84, Try.ntmps84
    go_wp2_with (first | (go_at_call 97; refine (l24Ok_any A n c l B _ h hB hn hsm hgd).mono ?_; rintro e w1 ⟨rfl, b1⟩) | (go_at_call 168; refine (l24Day_any _ _).mono ?_; rintro e w2 ⟨rfl, rfl⟩) | (go_at_call 159; refine (l00In_any _ _ _ _).mono ?_; rintro e w2 ⟨rfl, rfl⟩))
    go_ret2
    rw [HO.out]
    exact ⟨_, _, _, rfl, Sl.nil _ _ _ _ _, b1⟩
  · rcases h2 : inR dd 0 20000 with _ | _
    · have HO := Lib.hid (activeOnF_day (l := l) (dd := dd) h1 (by simp [h2]))
      go_enter Try.func84, Try.ntmps84
      go_wp2_with (first | (go_at_call 97; refine (l24Ok_any A n c l B _ h hB hn hsm hgd).mono ?_; rintro e w1 ⟨rfl, b1⟩) | (go_at_call 168; refine (l24Day_any _ _).mono ?_; rintro e w2 ⟨rfl, rfl⟩) | (go_at_call 159; refine (l00In_any _ _ _ _).mono ?_; rintro e w2 ⟨rfl, rfl⟩))
      go_ret2
      rw [HO.out]
      exact ⟨_, _, _, rfl, Sl.nil _ _ _ _ _, b1⟩
    · have HO := Lib.hid (activeOnF_ok (l := l) (dd := dd) h1 (by simp [h2]))
      have hl := Lib.hid (cls_len h)
      have hn30 : n ≤ 30 := by have := okCls_len h1; have := hl.out; omega
      have HK := Lib.hid h1
      go_enter Try.func84, Try.ntmps84
      go_wp2_with (first | (go_at_call 97; refine (l24Ok_any A n c l B _ h hB hn hsm hgd).mono ?_; rintro e w1 ⟨rfl, b1⟩) | (go_at_call 168; refine (l24Day_any _ _).mono ?_; rintro e w2 ⟨rfl, rfl⟩) | (go_at_call 159; refine (l00In_any _ _ _ _).mono ?_; rintro e w2 ⟨rfl, rfl⟩))
      have hz1 := b1.size
      have R1 := h.on hB b1
      have hB1 := Nat.le_trans hB hz1
      have HB1 := Lib.hid b1
      have acc0 := Acc.made w1 9 1
      clear b1 h h1 hsm hgd
      go_loopw [6, 7] (fun o i wr => ∃ (k : Nat) (A' : Option Addr) (m d : Nat), k ≤ n ∧ i = .int .i64 k ∧ o = .slice A' m d ∧ Acc w1.heap.size w1.heap.size 9 1 w1 wr A' m d (strs (namesTo (fun y => active y dd) l k))) (fun _ i _ => n - (intOf i).toNat)
      case atStart => exact ⟨0, _, _, _, Nat.zero_le _, rfl, rfl, acc0⟩
      case round =>
        obtain ⟨k, A', m, d9, hk, rfl, rfl, hacc⟩ := hrel
        have HA := Lib.hid hacc
        have hml : m ≤ 1000 := by have h1 := HA.out.len; rw [strs_length] at h1; have h2 := namesTo_len (fun y => active y dd) l k; omega
        clear acc0 hacc
        by_cases hlt : k < n
        · obtain ⟨x, b9, off, he, rfl, hb, c0, c1, c2, c3, c4⟩ := cl_at (R1.on hB1 (HA.out.below (Nat.le_refl _) (Nat.le_refl _))) hlt
          have HE := Lib.hid he
          have hcl := okCls_mem HK.out x (List.mem_of_getElem? he)
          have hto : 0 ≤ x.to_ ∧ x.to_ ≤ 20000 := ⟨by omega, hcl.2.2.2.1.2⟩
          have hi0 : (0 : Int) ≤ k := by omega
          have hi1 : (k : Int) < n := by omega
          clear he R1 hcl
          go_wp2_with fail
          refine (l24Active_any x dd b9 _ _ hto c2 c3).mono ?_
          rintro e w2 ⟨rfl, m2, rfl⟩
          have c0' : (wr.drewN m2).cell? ⟨b9, off + k * 5, none⟩ = some (.string x.name) := c0
          have HA1 := Lib.hid (HA.out.on (below_drewN (Below.refl _ _) m2) (Nat.le_refl _))
          clear c0 c1 c2 c3 c4
          rcases hp : (fun y => active y dd) x with _ | _
          · have HQ := Lib.hid (namesTo_no (p := (fun y => active y dd)) HE.out hp)
            first | rw [hp] | skip
            simp only at hp
            go_wp2
            go_roundw
            case rel => exact ⟨k + 1, _, _, _, by omega, by go_num, rfl, by rw [HQ.out]; exact HA1.out⟩
            case measure => simp [intOf]; omega
          · have HQ := Lib.hid (namesTo_yes (p := (fun y => active y dd)) HE.out hp)
            first | rw [hp] | skip
            simp only at hp
            go_wp2_with (at_builtin; refine wpList_acc rfl _ _ 79 rfl 9 _ 1 16 Try.underlying79 info_str rfl (by decide) (by decide) HA1.out (Nat.le_refl _) rfl [.string x.name] rfl rfl (fun u hu => by simp at hu; subst hu; rfl) (by omega) ?_; intro A2 d2 w9 hacc2; have HA2 := Lib.hid hacc2; clear hacc2)
            go_roundw
            case rel => exact ⟨k + 1, _, _, _, by omega, by go_num, rfl, by rw [HQ.out, strs_snoc]; exact HA2.out⟩
            case measure => simp [intOf]; omega
        · obtain rfl : k = n := by omega
          go_wp2
          go_ret2
          rw [HO.out, hl.out]
          exact ⟨_, _, _, rfl, HA.out.sl hz1 hz1, HB1.out.trans (HA.out.below hz1 hz1)⟩

set_option maxHeartbeats 2000000 in
theorem implActiveOn_any (A : Option Addr) (n c : Nat) (l : List Cl) (dd : Int) (B : Nat) (w : World) (h : Reads w B 5 A n (cls l)) (hB : B ≤ w.heap.size) (hn : n ≤ 1048576) (hsm : ∀ x ∈ l, x.small) (hgd : ∀ x ∈ l, x.good) (hd : I64 dd) :
    Calls Try.prog 83 #[.slice A n c, .int .i64 dd] w fun e w' => ∃ A' m d, e = .returned (.tuple #[.slice A' m d, .int .i64 (activeOnF l dd).2]) ∧ Sl w' w.heap.size w'.heap.size 9 1 A' m d (strs (activeOnF l dd).1) ∧ Below w.heap.size w w' := by
  have e1 : Below (w).heap.size (w) ((w).alloc (.cells #[.int .i64 dd] 2)) := (Below.refl _ _).alloc (Nat.le_refl _) _
  have k1 : ((w).alloc (.cells #[.int .i64 dd] 2)).cell? ⟨w.heap.size, 0, none⟩ = some (.int .i64 dd) := (Blk.new _ _ _).cellAt 0 (by simp)
  have HB0 := Lib.hid (show Below w.heap.size w ((w).alloc (.cells #[.int .i64 dd] 2)) from e1)
  have h0 : Reads ((w).alloc (.cells #[.int .i64 dd] 2)) B 5 A n (cls l) := h.on hB HB0.out
  have hB0 : B ≤ ((w).alloc (.cells #[.int .i64 dd] 2)).heap.size := Nat.le_trans hB HB0.out.size
  rcases h1 : okCls l with _ | _
  · have HO := Lib.hid (activeOnF_bad (dd := dd) h1)
    go_enter Try.func83, Try.ntmps83
    go_wp2_with (first | (go_at_call 100; refine (implValidClients_any A n c l B _ h0 hB0 hn hsm hgd).mono ?_; rintro e w1 ⟨rfl, b1⟩; have k1q := cell_on b1 k1) | (go_at_call 166; refine (isContractDay_any _ _).mono ?_; rintro e w2 ⟨rfl, rfl⟩) | (go_at_call 157; refine (within_any _ _ _ _).mono ?_; rintro e w2 ⟨rfl, rfl⟩))
    go_ret2
    rw [HO.out]
    exact ⟨_, _, _, rfl, Sl.nil _ _ _ _ _, bnext HB0.out b1 (Nat.le_refl _)⟩
  · rcases h2 : inR dd 0 20000 with _ | _
    · have HO := Lib.hid (activeOnF_day (l := l) (dd := dd) h1 (by simp [h2]))
      go_enter Try.func83, Try.ntmps83
      go_wp2_with (first | (go_at_call 100; refine (implValidClients_any A n c l B _ h0 hB0 hn hsm hgd).mono ?_; rintro e w1 ⟨rfl, b1⟩; have k1q := cell_on b1 k1) | (go_at_call 166; refine (isContractDay_any _ _).mono ?_; rintro e w2 ⟨rfl, rfl⟩) | (go_at_call 157; refine (within_any _ _ _ _).mono ?_; rintro e w2 ⟨rfl, rfl⟩))
      go_ret2
      rw [HO.out]
      exact ⟨_, _, _, rfl, Sl.nil _ _ _ _ _, bnext HB0.out b1 (Nat.le_refl _)⟩
    · have HO := Lib.hid (activeOnF_ok (l := l) (dd := dd) h1 (by simp [h2]))
      have hl := Lib.hid (cls_len h)
      have hn30 : n ≤ 30 := by have := okCls_len h1; have := hl.out; omega
      go_enter Try.func83, Try.ntmps83
      go_wp2_with (first | (go_at_call 100; refine (implValidClients_any A n c l B _ h0 hB0 hn hsm hgd).mono ?_; rintro e w1 ⟨rfl, b1⟩; have k1q := cell_on b1 k1) | (go_at_call 166; refine (isContractDay_any _ _).mono ?_; rintro e w2 ⟨rfl, rfl⟩) | (go_at_call 157; refine (within_any _ _ _ _).mono ?_; rintro e w2 ⟨rfl, rfl⟩))
      have hz1 := b1.size
      refine (namesActive_any A n c l dd w.heap.size B _ (h0.on hB0 b1) (Nat.le_trans hB0 hz1) (by omega) (cell_on b1 k1)).mono ?_
      rintro e w5 ⟨A5, m5, d5, rfl, s5, b5⟩
      have HF := Lib.hid (bnext (bnext HB0.out b1 (Nat.le_refl _)) b5 (Nat.le_refl _))
      have HS := Lib.hid s5
      have hz0 := HB0.out.size
      have hz5 : w.heap.size ≤ w1.heap.size := by omega
      clear s5 b5 b1 h1
      go_wp2
      go_ret2
      rw [HO.out, hl.out]
      exact ⟨_, _, _, rfl, HS.out.wide hz5 (Nat.le_refl _), HF.out⟩
end Go.Proofs.Ytnlghcpidlpfkaa
