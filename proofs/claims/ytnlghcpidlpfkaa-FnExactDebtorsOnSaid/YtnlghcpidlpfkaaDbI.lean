/- The clients that owe, in the program: found, struck, sorted. -/
import Derived.Test.YtnlghcpidlpfkaaDbP
import Derived.Test.YtnlghcpidlpfkaaBkG
set_option linter.unusedVariables false
set_option linter.unusedSimpArgs false
namespace Go.Proofs.Ytnlghcpidlpfkaa
open Go.RowKit Stb

theorem indexFunc_nil (A : Option Addr) (c : Nat) (cb : Value) (w : World) :
    Calls Try.prog 209 #[.slice A 0 c, cb] w fun e w' => e = .returned (.int .i64 (-1)) ∧ w = w' := by
  go_enter Try.func209, Try.ntmps209
  go_wp2
  go_loop [8] (fun i => i = .int .i64 0) (fun _ => 0)
  case atStart => rfl
  case round =>
    obtain rfl := hrel
    go_wp2
    go_ret
    exact ⟨rfl, rfl⟩
theorem deleteFunc_nil (A : Option Addr) (c : Nat) (cb : Value) (w : World) :
    Calls Try.prog 142 #[.slice A 0 c, cb] w fun e w' => e = .returned (.slice A 0 c) ∧ w = w' := by
  go_enter Try.func142, Try.ntmps142
  go_wp2_with fail
  refine (indexFunc_nil A c cb w).mono ?_
  rintro e w' ⟨rfl, rfl⟩
  go_wp2
  go_ret
  exact ⟨rfl, rfl⟩
theorem insertion_nil (A : Option Addr) (c : Nat) (cb : Value) (w : World) :
    Calls Try.prog 235 #[.slice A 0 c, .int .i64 0, .int .i64 0, cb] w fun e w' => e = .returned (.tuple #[]) ∧ w = w' := by
  go_enter Try.func235, Try.ntmps235
  go_wp2
  go_loop [8] (fun i => i = .int .i64 1) (fun _ => 0)
  case atStart => rfl
  case round =>
    obtain rfl := hrel
    go_wp2
    go_end0
    exact ⟨rfl, rfl⟩
theorem stable_nil (A : Option Addr) (c : Nat) (cb : Value) (w : World) :
    Calls Try.prog 210 #[.slice A 0 c, .int .i64 0, cb] w fun e w' => e = .returned (.tuple #[]) ∧ w = w' := by
  go_enter Try.func210, Try.ntmps210
  go_wp2
  go_loop [7, 8] (fun i j => i = .int .i64 0 ∧ j = .int .i64 20) (fun _ _ => 0)
  case atStart => exact ⟨rfl, rfl⟩
  case round =>
    obtain ⟨rfl, rfl⟩ := hrel
    go_wp2_with fail
    refine (insertion_nil A c cb w).mono ?_
    rintro e w' ⟨rfl, rfl⟩
    go_wp2
    go_loop [6] (fun i => i = .int .i64 20) (fun _ => 0)
    case atStart => rfl
    case round =>
      obtain rfl := hrel
      go_wp2
      go_end0
      exact ⟨rfl, rfl⟩
theorem sortStable_nil (A : Option Addr) (c : Nat) (cb : Value) (w : World) :
    Calls Try.prog 145 #[.slice A 0 c, cb] w fun e w' => e = .returned (.tuple #[]) ∧ w = w' := by
  go_enter Try.func145, Try.ntmps145
  go_wp2_with fail
  refine (stable_nil A c cb w).mono ?_
  rintro e w' ⟨rfl, rfl⟩
  go_wp2
  go_end0
  exact ⟨rfl, rfl⟩
theorem filter_owes (l : List Bk) (d : Int) : ((namesB l).filter fun x => !(fun t => decide (bal l t d ≤ 0)) x) = (namesB l).filter (owes l d) := by
  apply List.filter_congr
  intro x _
  unfold owes
  by_cases h : 0 < bal l x d
  · have h2 : ¬ bal l x d ≤ 0 := by omega
    simp [h, h2]
  · have h2 : bal l x d ≤ 0 := by omega
    simp [h, h2]
set_option maxHeartbeats 2000000 in
set_option maxRecDepth 100000 in
theorem implDebtorsOn_any (A : Option Addr) (n c : Nat) (l : List Bk) (d : Int) (B : Nat) (w : World) (h : Reads w B 3 A n (bks l)) (hB : B ≤ w.heap.size) (hn : n ≤ 1048576) (hsm : ∀ x ∈ l, x.small) (hd : I64 d) :
    Calls Try.prog 50 #[.slice A n c, .int .i64 d] w fun e w' => ∃ A' m c', e = .returned (.tuple #[.slice A' m c', .int .i64 (debtorsN l d).2]) ∧ Sl w' w.heap.size w'.heap.size 9 1 A' m c' (strs (debtorsN l d).1) ∧ Below w.heap.size w w' := by
  obtain ⟨wq, hwq⟩ : ∃ y, (w.alloc (.cells #[.slice A n c] 41)).alloc (.cells #[.int .i64 d] 2) = y := ⟨_, rfl⟩
  have yl : Blk wq w.heap.size 41 #[.slice A n c] := by rw [← hwq]; exact (Blk.new _ _ _).alloc _
  have yd : Blk wq (w.heap.size + 1) 2 #[.int .i64 d] := by
    rw [← hwq]
    have := Blk.new (w.alloc (.cells #[.slice A n c] 41)) 2 #[.int .i64 d]
    simpa using this
  have bq : Below w.heap.size w wq := by rw [← hwq]; exact ((Below.refl _ _).alloc (Nat.le_refl _) _).alloc (by simp) _
  have zq : wq.heap.size = w.heap.size + 2 := by rw [← hwq]; simp
  have HBq := Lib.hid bq
  have HR := Lib.hid (h.on hB bq)
  have k1 : wq.cell? ⟨w.heap.size, 0, none⟩ = some (.slice A n c) := yl.cellAt 0 (by simp)
  have k2 : wq.cell? ⟨w.heap.size + 1, 0, none⟩ = some (.int .i64 d) := yd.cellAt 0 (by simp)
  clear h bq yl yd
  rcases hok : okBks l with _ | _
  · have hcode : codeI l ⟨#[97]⟩ d d = 1 := by simp [codeI, hok]
    have HO := Lib.hid (debtorsN_bad (d := d) hok)
    go_enter Try.func50, Try.ntmps50
    go_wp2_with fail
    refine (bookingsCode_any A n c l ⟨#[97]⟩ d d B wq HR.out (by omega) hn hsm (by decide)).mono ?_
    rw [hcode]
    rintro e w1 ⟨rfl, b1⟩
    have z1 := b1.size
    have HB1 := Lib.hid (bnext HBq.out b1 (Nat.le_refl _))
    clear b1 hwq
    go_wp2
    go_ret2
    rw [HO.out]
    exact ⟨_, _, _, rfl, Sl.nil _ _ _ _ _, HB1.out⟩
  rcases hday : inR d 0 20000 with _ | _
  · have hcode : codeI l ⟨#[97]⟩ d d = 2 := by
      rw [codeI_self]; simp [codeS, hok, hday]
    have HO := Lib.hid (debtorsN_day hok hday)
    go_enter Try.func50, Try.ntmps50
    go_wp2_with fail
    refine (bookingsCode_any A n c l ⟨#[97]⟩ d d B wq HR.out (by omega) hn hsm (by decide)).mono ?_
    rw [hcode]
    rintro e w1 ⟨rfl, b1⟩
    have z1 := b1.size
    have HB1 := Lib.hid (bnext HBq.out b1 (Nat.le_refl _))
    clear b1 hwq
    go_wp2
    go_ret2
    rw [HO.out]
    exact ⟨_, _, _, rfl, Sl.nil _ _ _ _ _, HB1.out⟩
  · have hcode : codeI l ⟨#[97]⟩ d d = 0 := by
      rw [codeI_self]
      have : isName ⟨#[97]⟩ = true := by decide
      simp [codeS, hok, hday, this]
    have HO := Lib.hid (debtorsN_ok hok hday)
    have HOK := Lib.hid hok
    go_enter Try.func50, Try.ntmps50
    go_wp2_with fail
    refine (bookingsCode_any A n c l ⟨#[97]⟩ d d B wq HR.out (by omega) hn hsm (by decide)).mono ?_
    rw [hcode]
    rintro e w1 ⟨rfl, b1⟩
    have z1 := b1.size
    have HB1 := Lib.hid (bnext HBq.out b1 (Nat.le_refl _))
    have HR1 := Lib.hid (HR.out.on (by omega) b1)
    have q1 := cell_on b1 k1
    have q2 := cell_on b1 k2
    have HL80 := Lib.hid (okBks_len hok)
    have HNL := Lib.hid (names_len l)
    clear b1 hwq k1 k2 hok hday hcode HR
    go_wp2_with fail
    refine (clientsBooked_any A n c B l w1 HR1.out (by omega) hn).mono ?_
    rintro e w2 ⟨A2, m2, c2, rfl, s2, b2⟩
    have z2 := b2.size
    have HB2 := Lib.hid (bnext HB1.out b2 (Nat.le_refl _))
    have HR2 := Lib.hid (HR1.out.on (by omega) b2)
    replace q1 := cell_on b2 q1
    replace q2 := cell_on b2 q2
    have hlen : (namesB l).length = m2 := by have := s2.len; rw [strs_length] at this; omega
    clear b2 HR1 HB1
    by_cases h0 : m2 = 0
    · subst h0
      have hnil : namesB l = [] := List.length_eq_zero_iff.1 hlen
      have HDN := Lib.hid (show debtF l d = [] by
        apply List.length_eq_zero_iff.1
        rw [debt_len, hnil]; rfl)
      have HS2 := Lib.hid s2
      have HNIL := Lib.hid hnil
      clear s2 hlen hnil
      go_wp2_with fail
      refine (deleteFunc_nil A2 c2 _ w2).mono ?_
      rintro e w' ⟨rfl, rfl⟩
      go_wp2_with fail
      refine (sortStable_nil A2 c2 _ w2).mono ?_
      rintro e w' ⟨rfl, rfl⟩
      go_wp2
      go_ret2
      rw [HO.out, HDN.out]
      refine ⟨A2, 0, c2, rfl, ?_, HB2.out⟩
      have := HS2.out.wide (lo' := w.heap.size) (by omega) (Nat.le_refl _)
      rw [HNIL.out] at this
      exact this
    · have hA2 : A2 ≠ none := by
        obtain ⟨g, rfl, _⟩ := s2.lt (by omega)
        simp
      obtain ⟨g, rfl, hg1, hg2, hg3, hnc⟩ : ∃ g, A2 = some ⟨g, 0, none⟩ ∧ w1.heap.size ≤ g ∧ g < w2.heap.size ∧ g < w2.heap.size ∧ m2 ≤ c2 := by
        rcases s2.form with ⟨h0', _⟩ | ⟨g, cur, hg, h2, h3, hb, hc, _⟩
        · exact absurd h0' hA2
        · exact ⟨g, hg, h2, h3, h3, hc⟩
      have hdel : DelAt w2 g w.heap.size (w.heap.size + 1) (fun t => decide (bal l t d ≤ 0)) := fun W x hW => by
        have zW := hW.size
        exact debt1_any A n c l d x w.heap.size (w.heap.size + 1) B W (HR2.out.keep fun p hp => World.cell?_of_block (hW.block p.block (by omega) (Or.inl (by omega)))) (by omega) HOK.out hd ((World.cell?_of_block (hW.block w.heap.size (by omega) (Or.inl (by omega)))).trans q1) ((World.cell?_of_block (hW.block (w.heap.size + 1) (by omega) (Or.inl (by omega)))).trans q2)
      have hcmp : CmpAt w2 g w.heap.size (w.heap.size + 1) (fun x y => cmpI (bal l y d) (bal l x d)) := fun W x y hW => by
        have zW := hW.size
        exact debt2_any A n c l d x y w.heap.size (w.heap.size + 1) B W (HR2.out.keep fun p hp => World.cell?_of_block (hW.block p.block (by omega) (Or.inl (by omega)))) (by omega) HOK.out hd ((World.cell?_of_block (hW.block w.heap.size (by omega) (Or.inl (by omega)))).trans q1) ((World.cell?_of_block (hW.block (w.heap.size + 1) (by omega) (Or.inl (by omega)))).trans q2)
      have HDEL := Lib.hid hdel
      have HCMP := Lib.hid hcmp
      have HS2 := Lib.hid s2
      have hm80 : m2 ≤ 80 := by have := HL80.out; have := HNL.out; omega
      clear s2 hdel hcmp hA2 q1 q2 HR2 h0
      go_wp2_with fail
      refine (deleteFunc_any g m2 c2 w1.heap.size w2.heap.size w.heap.size (w.heap.size + 1) _ (namesB l) w2 w2 HS2.out (by omega) hnc (Only.refl _ _ _) HDEL.out).mono ?_
      rw [filter_owes]
      rintro e w3 ⟨m3, rfl, hm3, s3, o3⟩
      have z3 := o3.size
      have hlen3 : m3 = ((namesB l).filter (owes l d)).length := by have := s3.len; rw [strs_length] at this; omega
      have s3' := s3
      rw [← row_of ((namesB l).filter (owes l d)), ← hlen3] at s3'
      have HS3 := Lib.hid s3'
      have HO3 := Lib.hid o3
      have HSRT := Lib.hid (show Srt (fun x y => sless x y = true) (fun k => ((namesB l).filter (owes l d)).getD k ⟨#[]⟩) 0 m3 by rw [hlen3]; exact srt_of (owes_ss l d))
      have HL3 := Lib.hid hlen3
      clear s3 s3' o3 hlen3 HS2
      go_wp2_with fail
      refine (sortStable_any g m3 c2 w1.heap.size w2.heap.size w.heap.size (w.heap.size + 1) _ (balR l d) _ w2 (by omega) HCMP.out (bal_ord l d) _ w3 HS3.out HO3.out HSRT.out).mono ?_
      rintro e w4 ⟨rfl, f4, s4, t4, r4, o4⟩
      have z4 := o4.size
      have HROW := Lib.hid (sorted_debt HL3.out t4 r4)
      have HB4 := Lib.hid (HB2.out.trans (o4.below (B := w.heap.size) (by omega) (by omega)))
      have HS4 := Lib.hid s4
      clear s4 t4 r4 o4
      go_wp2
      go_ret2
      rw [HO.out]
      refine ⟨_, m3, c2, rfl, ?_, HB4.out⟩
      have := HS4.out.wide (lo' := w.heap.size) (hi' := w4.heap.size) (by omega) (by omega)
      rw [HROW.out] at this
      exact this
end Go.Proofs.Ytnlghcpidlpfkaa
