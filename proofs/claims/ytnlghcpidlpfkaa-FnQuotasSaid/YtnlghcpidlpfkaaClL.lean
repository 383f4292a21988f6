/- Clients: whose contracts end in a span. -/
import Derived.Test.YtnlghcpidlpfkaaClK
set_option linter.unusedVariables false
namespace Go.Proofs.Ytnlghcpidlpfkaa
open Go.RowKit

def endsBetweenF (l : List Cl) (a bb : Int) : List ByteArray × Int := if okCls l = true then (if (inR a 0 20000 && inR bb a 20000) = true then (namesTo (fun y => inR y.to_ a bb) l l.length, 0) else ([], 2)) else ([], 1)
theorem endsBetweenF_bad {l : List Cl} {a bb : Int} (h : okCls l = false) : endsBetweenF l a bb = ([], 1) := by simp only [endsBetweenF, h, Bool.false_eq_true, if_false]
theorem endsBetweenF_day {l : List Cl} {a bb : Int} (h : okCls l = true) (h2 : (inR a 0 20000 && inR bb a 20000) = false) : endsBetweenF l a bb = ([], 2) := by simp only [endsBetweenF, h, h2, Bool.false_eq_true, if_false, if_true]
theorem endsBetweenF_ok {l : List Cl} {a bb : Int} (h : okCls l = true) (h2 : (inR a 0 20000 && inR bb a 20000) = true) : endsBetweenF l a bb = (namesTo (fun y => inR y.to_ a bb) l l.length, 0) := by simp only [endsBetweenF, h, h2, if_true]
theorem cntEndsBetween_len {l : List Cl} {a bb : Int} {m : Nat} (h : (strs (endsBetweenF l a bb).1).length = m * 1) : m ≤ 1048576 := by
  rw [strs_length] at h
  rcases h1 : okCls l with _ | _
  · rw [endsBetweenF_bad h1] at h; simp at h; omega
  · rcases h2 : (inR a 0 20000 && inR bb a 20000) with _ | _
    · rw [endsBetweenF_day h1 h2] at h; simp at h; omega
    · rw [endsBetweenF_ok h1 h2] at h
      have h3 := namesTo_len (fun y => inR y.to_ a bb) l l.length
      have h4 := okCls_len h1
      simp only at h
      omega

set_option maxHeartbeats 2000000 in
theorem specEndsBetween_any (A : Option Addr) (n c : Nat) (l : List Cl) (a bb : Int) (B : Nat) (w : World) (h : Reads w B 5 A n (cls l)) (hB : B ≤ w.heap.size) (hn : n ≤ 1048576) (hsm : ∀ x ∈ l, x.small) (hgd : ∀ x ∈ l, x.good) (ha : I64 a) (hb : I64 bb) :
    Calls Try.prog 82 #[.slice A n c, .int .i64 a, .int .i64 bb] w fun e w' => ∃ A' m d, e = .returned (.tuple #[.slice A' m d, .int .i64 (endsBetweenF l a bb).2]) ∧ Sl w' w.heap.size w'.heap.size 9 1 A' m d (strs (endsBetweenF l a bb).1) ∧ Below w.heap.size w w' := by
  rcases h1 : okCls l with _ | _
  · have HO := Lib.hid (endsBetweenF_bad (a := a) (bb := bb) h1)
    go_enter Try.func82, Try.ntmps82
    go_wp2_with (first | (go_at_call 97; refine (l24Ok_any A n c l B _ h hB hn hsm hgd).mono ?_; rintro e w1 ⟨rfl, b1⟩) | (go_at_call 168; refine (l24Day_any _ _).mono ?_; rintro e w2 ⟨rfl, rfl⟩) | (go_at_call 159; refine (l00In_any _ _ _ _).mono ?_; rintro e w2 ⟨rfl, rfl⟩))
    go_ret2
    rw [HO.out]
    exact ⟨_, _, _, rfl, Sl.nil _ _ _ _ _, b1⟩
  · rcases h2 : inR a 0 20000 with _ | _
    · have HO := Lib.hid (endsBetweenF_day (l := l) (a := a) (bb := bb) h1 (by simp [h2]))
      go_enter Try.func82, Try.ntmps82
      go_wp2_with (first | (go_at_call 97; refine (l24Ok_any A n c l B _ h hB hn hsm hgd).mono ?_; rintro e w1 ⟨rfl, b1⟩) | (go_at_call 168; refine (l24Day_any _ _).mono ?_; rintro e w2 ⟨rfl, rfl⟩) | (go_at_call 159; refine (l00In_any _ _ _ _).mono ?_; rintro e w2 ⟨rfl, rfl⟩))
      go_ret2
      rw [HO.out]
      exact ⟨_, _, _, rfl, Sl.nil _ _ _ _ _, b1⟩
    · rcases h3 : inR bb a 20000 with _ | _
      · have HO := Lib.hid (endsBetweenF_day (l := l) (a := a) (bb := bb) h1 (by simp [h2, h3]))
        go_enter Try.func82, Try.ntmps82
        go_wp2_with (first | (go_at_call 97; refine (l24Ok_any A n c l B _ h hB hn hsm hgd).mono ?_; rintro e w1 ⟨rfl, b1⟩) | (go_at_call 168; refine (l24Day_any _ _).mono ?_; rintro e w2 ⟨rfl, rfl⟩) | (go_at_call 159; refine (l00In_any _ _ _ _).mono ?_; rintro e w2 ⟨rfl, rfl⟩))
        go_ret2
        rw [HO.out]
        exact ⟨_, _, _, rfl, Sl.nil _ _ _ _ _, b1⟩
      · have HO := Lib.hid (endsBetweenF_ok (l := l) (a := a) (bb := bb) h1 (by simp [h2, h3]))
        have hl := Lib.hid (cls_len h)
        have hn30 : n ≤ 30 := by have := okCls_len h1; have := hl.out; omega
        have HK := Lib.hid h1
        go_enter Try.func82, Try.ntmps82
        go_wp2_with (first | (go_at_call 97; refine (l24Ok_any A n c l B _ h hB hn hsm hgd).mono ?_; rintro e w1 ⟨rfl, b1⟩) | (go_at_call 168; refine (l24Day_any _ _).mono ?_; rintro e w2 ⟨rfl, rfl⟩) | (go_at_call 159; refine (l00In_any _ _ _ _).mono ?_; rintro e w2 ⟨rfl, rfl⟩))
        have hz1 := b1.size
        have R1 := h.on hB b1
        have hB1 := Nat.le_trans hB hz1
        have HB1 := Lib.hid b1
        have acc0 := Acc.made w1 9 1
        clear b1 h h1 hsm hgd
        go_loopw [8, 9] (fun o i wr => ∃ (k : Nat) (A' : Option Addr) (m d : Nat), k ≤ n ∧ i = .int .i64 k ∧ o = .slice A' m d ∧ Acc w1.heap.size w1.heap.size 9 1 w1 wr A' m d (strs (namesTo (fun y => inR y.to_ a bb) l k))) (fun _ i _ => n - (intOf i).toNat)
        case atStart => exact ⟨0, _, _, _, Nat.zero_le _, rfl, rfl, acc0⟩
        case round =>
          obtain ⟨k, A', m, d9, hk, rfl, rfl, hacc⟩ := hrel
          have HA := Lib.hid hacc
          have hml : m ≤ 1000 := by have h1 := HA.out.len; rw [strs_length] at h1; have h2 := namesTo_len (fun y => inR y.to_ a bb) l k; omega
          clear acc0 hacc
          by_cases hlt : k < n
          · obtain ⟨x, b9, off, he, rfl, hb, c0, c1, c2, c3, c4⟩ := cl_at (R1.on hB1 (HA.out.below (Nat.le_refl _) (Nat.le_refl _))) hlt
            have HE := Lib.hid he
            have hcl := okCls_mem HK.out x (List.mem_of_getElem? he)
            have hto : 0 ≤ x.to_ ∧ x.to_ ≤ 20000 := ⟨by omega, hcl.2.2.2.1.2⟩
            have hi0 : (0 : Int) ≤ k := by omega
            have hi1 : (k : Int) < n := by omega
            clear he R1 hcl
            go_wp2_with fail
            refine (l00In_any _ _ _ _).mono ?_
            rintro e w2 ⟨rfl, rfl⟩
            have HA1 := HA
            rcases hp : (fun y => inR y.to_ a bb) x with _ | _
            · have HQ := Lib.hid (namesTo_no (p := (fun y => inR y.to_ a bb)) HE.out hp)
              first | rw [hp] | skip
              simp only at hp
              go_wp2
              go_roundw
              case rel => exact ⟨k + 1, _, _, _, by omega, by go_num, rfl, by rw [HQ.out]; exact HA1.out⟩
              case measure => simp [intOf]; omega
            · have HQ := Lib.hid (namesTo_yes (p := (fun y => inR y.to_ a bb)) HE.out hp)
              first | rw [hp] | skip
              simp only at hp
              go_wp2_with (at_builtin; refine wpList_acc rfl _ _ 79 rfl 9 _ 1 16 Try.underlying79 info_str rfl (by decide) (by decide) HA1.out (Nat.le_refl _) rfl [.string x.name] rfl rfl (fun u hu => by simp at hu; subst hu; rfl) (by omega) ?_; intro A2 d2 w9 hacc2; have HA2 := Lib.hid hacc2; clear hacc2)
              go_roundw
              case rel => exact ⟨k + 1, _, _, _, by omega, by go_num, rfl, by rw [HQ.out, strs_snoc]; exact HA2.out⟩
              case measure => simp [intOf]; omega
          · obtain rfl : k = n := by omega
            go_wp2
            go_ret2
            rw [HO.out, hl.out]
            exact ⟨_, _, _, rfl, HA.out.sl hz1 hz1, HB1.out.trans (HA.out.below hz1 hz1)⟩

set_option maxHeartbeats 2000000 in
theorem implEndsBetween_any (A : Option Addr) (n c : Nat) (l : List Cl) (a bb : Int) (B : Nat) (w : World) (h : Reads w B 5 A n (cls l)) (hB : B ≤ w.heap.size) (hn : n ≤ 1048576) (hsm : ∀ x ∈ l, x.small) (hgd : ∀ x ∈ l, x.good) (ha : I64 a) (hb : I64 bb) :
    Calls Try.prog 81 #[.slice A n c, .int .i64 a, .int .i64 bb] w fun e w' => ∃ A' m d, e = .returned (.tuple #[.slice A' m d, .int .i64 (endsBetweenF l a bb).2]) ∧ Sl w' w.heap.size w'.heap.size 9 1 A' m d (strs (endsBetweenF l a bb).1) ∧ Below w.heap.size w w' := by
  have e1 : Below (w).heap.size (w) ((w).alloc (.cells #[.int .i64 a] 2)) := (Below.refl _ _).alloc (Nat.le_refl _) _
  have e2 : Below ((w).alloc (.cells #[.int .i64 a] 2)).heap.size ((w).alloc (.cells #[.int .i64 a] 2)) (((w).alloc (.cells #[.int .i64 a] 2)).alloc (.cells #[.int .i64 bb] 2)) := (Below.refl _ _).alloc (Nat.le_refl _) _
  have k1 : (((w).alloc (.cells #[.int .i64 a] 2)).alloc (.cells #[.int .i64 bb] 2)).cell? ⟨w.heap.size, 0, none⟩ = some (.int .i64 a) := cell_on e2 ((Blk.new w _ _).cellAt 0 (by simp))
  have k2 : (((w).alloc (.cells #[.int .i64 a] 2)).alloc (.cells #[.int .i64 bb] 2)).cell? ⟨w.heap.size + 1, 0, none⟩ = some (.int .i64 bb) := by
    have := (Blk.new (w.alloc (.cells #[.int .i64 a] 2)) 2 #[.int .i64 bb]).cellAt 0 (by simp)
    rw [show (w.alloc (.cells #[.int .i64 a] 2)).heap.size = w.heap.size + 1 from by simp] at this
    exact this
  have HB0 := Lib.hid (show Below w.heap.size w (((w).alloc (.cells #[.int .i64 a] 2)).alloc (.cells #[.int .i64 bb] 2)) from bnext e1 e2 (Nat.le_refl _))
  have h0 : Reads (((w).alloc (.cells #[.int .i64 a] 2)).alloc (.cells #[.int .i64 bb] 2)) B 5 A n (cls l) := h.on hB HB0.out
  have hB0 : B ≤ (((w).alloc (.cells #[.int .i64 a] 2)).alloc (.cells #[.int .i64 bb] 2)).heap.size := Nat.le_trans hB HB0.out.size
  rcases h1 : okCls l with _ | _
  · have HO := Lib.hid (endsBetweenF_bad (a := a) (bb := bb) h1)
    go_enter Try.func81, Try.ntmps81
    go_wp2_with (first | (go_at_call 100; refine (implValidClients_any A n c l B _ h0 hB0 hn hsm hgd).mono ?_; rintro e w1 ⟨rfl, b1⟩; have k1q := cell_on b1 k1; have k2q := cell_on b1 k2) | (go_at_call 166; refine (isContractDay_any _ _).mono ?_; rintro e w2 ⟨rfl, rfl⟩) | (go_at_call 157; refine (within_any _ _ _ _).mono ?_; rintro e w2 ⟨rfl, rfl⟩))
    go_ret2
    rw [HO.out]
    exact ⟨_, _, _, rfl, Sl.nil _ _ _ _ _, bnext HB0.out b1 (Nat.le_refl _)⟩
  · rcases h2 : inR a 0 20000 with _ | _
    · have HO := Lib.hid (endsBetweenF_day (l := l) (a := a) (bb := bb) h1 (by simp [h2]))
      go_enter Try.func81, Try.ntmps81
      go_wp2_with (first | (go_at_call 100; refine (implValidClients_any A n c l B _ h0 hB0 hn hsm hgd).mono ?_; rintro e w1 ⟨rfl, b1⟩; have k1q := cell_on b1 k1; have k2q := cell_on b1 k2) | (go_at_call 166; refine (isContractDay_any _ _).mono ?_; rintro e w2 ⟨rfl, rfl⟩) | (go_at_call 157; refine (within_any _ _ _ _).mono ?_; rintro e w2 ⟨rfl, rfl⟩))
      go_ret2
      rw [HO.out]
      exact ⟨_, _, _, rfl, Sl.nil _ _ _ _ _, bnext HB0.out b1 (Nat.le_refl _)⟩
    · rcases h3 : inR bb a 20000 with _ | _
      · have HO := Lib.hid (endsBetweenF_day (l := l) (a := a) (bb := bb) h1 (by simp [h2, h3]))
        go_enter Try.func81, Try.ntmps81
        go_wp2_with (first | (go_at_call 100; refine (implValidClients_any A n c l B _ h0 hB0 hn hsm hgd).mono ?_; rintro e w1 ⟨rfl, b1⟩; have k1q := cell_on b1 k1; have k2q := cell_on b1 k2) | (go_at_call 166; refine (isContractDay_any _ _).mono ?_; rintro e w2 ⟨rfl, rfl⟩) | (go_at_call 157; refine (within_any _ _ _ _).mono ?_; rintro e w2 ⟨rfl, rfl⟩))
        go_ret2
        rw [HO.out]
        exact ⟨_, _, _, rfl, Sl.nil _ _ _ _ _, bnext HB0.out b1 (Nat.le_refl _)⟩
      · have HO := Lib.hid (endsBetweenF_ok (l := l) (a := a) (bb := bb) h1 (by simp [h2, h3]))
        have hl := Lib.hid (cls_len h)
        have hn30 : n ≤ 30 := by have := okCls_len h1; have := hl.out; omega
        go_enter Try.func81, Try.ntmps81
        go_wp2_with (first | (go_at_call 100; refine (implValidClients_any A n c l B _ h0 hB0 hn hsm hgd).mono ?_; rintro e w1 ⟨rfl, b1⟩; have k1q := cell_on b1 k1; have k2q := cell_on b1 k2) | (go_at_call 166; refine (isContractDay_any _ _).mono ?_; rintro e w2 ⟨rfl, rfl⟩) | (go_at_call 157; refine (within_any _ _ _ _).mono ?_; rintro e w2 ⟨rfl, rfl⟩))
        have hz1 := b1.size
        refine (namesEnds_any A n c l a bb w.heap.size (w.heap.size + 1) B _ (h0.on hB0 b1) (Nat.le_trans hB0 hz1) (by omega) (cell_on b1 k1) (cell_on b1 k2)).mono ?_
        rintro e w5 ⟨A5, m5, d5, rfl, s5, b5⟩
        have HF := Lib.hid (bnext (bnext HB0.out b1 (Nat.le_refl _)) b5 (Nat.le_refl _))
        have HS := Lib.hid s5
        have hz0 := HB0.out.size
        have hz5 : w.heap.size ≤ w1.heap.size := by omega
        clear s5 b5 b1 h1
        go_wp2
        go_ret2
        rw [HO.out, hl.out]
        exact ⟨_, _, _, rfl, HS.out.wide hz5 (Nat.le_refl _), HF.out⟩
end Go.Proofs.Ytnlghcpidlpfkaa
