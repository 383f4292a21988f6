/- What the turnovers' law draws. -/
import Derived.Test.YtnlghcpidlpfkaaBkDs
set_option linter.unusedVariables false
set_option linter.unusedSimpArgs false
namespace Go.Proofs.Ytnlghcpidlpfkaa
open Go.RowKit

theorem l00Min_any (x : Int) (w : World) (hx : I64 x) : Calls Try.prog 177 #[.int .i64 x, .int .i64 20000] w fun e w' => ∃ m : Int, e = .returned (.int .i64 m) ∧ I64 m ∧ m ≤ 20000 ∧ w = w' := by
  by_cases h : x < 20000
  · go_enter Try.func177, Try.ntmps177
    go_wp2
    go_ret
    exact ⟨x, rfl, hx, by omega, rfl⟩
  · have h' : decide (x < 20000) = false := decide_eq_false h
    go_enter Try.func177, Try.ntmps177
    go_wp2
    go_ret
    exact ⟨20000, rfl, ⟨by omega, by omega⟩, by omega, rfl⟩
theorem pos0_le {m b : Int} (h : m ≤ b) (hb : 0 ≤ b) : 0 ≤ pos0 m ∧ pos0 m ≤ b := by unfold pos0; split <;> omega
set_option maxRecDepth 100000 in
theorem drawClientsBooked_any (A : Option Addr) (n c : Nat) (bs : List Int) (w : World) (h : Reads w w.heap.size 1 A n (byts bs)) (hb : ∀ x ∈ bs, Byt x) (hn : n ≤ 9223372036854775807) :
    Calls Try.prog 96 #[.slice A n c] w fun e w' => ∃ (l : List Bk) (A' : Option Addr) (d : Nat), e = .returned (.slice A' l.length d) ∧ BksOut w l A' d w' := by
  have HH := Lib.hid h
  have HB := Lib.hid hb
  clear h hb
  go_enter Try.func96, Try.ntmps96
  go_wp2_with fail
  refine (l00From_any A n c bs _ HH.out HB.out hn).mono ?_
  rintro e w1 ⟨rfl, s1, b1, z1⟩
  go_wp2_with fail
  refine (l25Bent_any _ 0 _ s1 (by omega)).mono ?_
  rintro e w2 ⟨l, A', d, rfl, hl, hgd, sl, s2, o2⟩
  have HG := Lib.hid hgd
  clear hgd
  go_wp2
  go_ret
  exact ⟨l, A', d, rfl, hl, HG.out, sl.wide (by omega) (Nat.le_refl _), b1.trans (o2.below (Nat.le_refl _) (by omega))⟩
set_option maxRecDepth 100000 in
theorem drawOldestUnpaid_any (A : Option Addr) (n c : Nat) (bs : List Int) (w : World) (h : Reads w w.heap.size 1 A n (byts bs)) (hb : ∀ x ∈ bs, Byt x) (hn : n ≤ 9223372036854775807) :
    Calls Try.prog 93 #[.slice A n c] w fun e w' => ∃ (l : List Bk) (A' : Option Addr) (d : Nat) (s : ByteArray), e = .returned (.tuple #[.slice A' l.length d, .string s]) ∧ s.size ≤ 12 ∧ BksOut w l A' d w' := by
  have HH := Lib.hid h
  have HB := Lib.hid hb
  clear h hb
  go_enter Try.func93, Try.ntmps93
  go_wp2_with fail
  refine (l25Ask_any A n c bs _ HH.out HB.out hn).mono ?_
  rintro e w1 ⟨l, A', d, s, x, rfl, hss, hx, hl, hgd, sl, b1⟩
  have z1 := b1.size
  have HG := Lib.hid hgd
  clear hgd
  go_wp2
  go_ret2
  exact ⟨l, A', d, s, rfl, hss, hl, HG.out, sl, b1⟩

set_option maxRecDepth 100000 in
theorem drawTurnoverOf_any (A : Option Addr) (n c : Nat) (bs : List Int) (w : World) (h : Reads w w.heap.size 1 A n (byts bs)) (hb : ∀ x ∈ bs, Byt x) (hn : n ≤ 9223372036854775807) :
    Calls Try.prog 87 #[.slice A n c] w fun e w' => ∃ (l : List Bk) (A' : Option Addr) (d : Nat) (x y : Int), e = .returned (.tuple #[.slice A' l.length d, .int .i64 x, .int .i64 y]) ∧ I64 x ∧ I64 y ∧ BksOut w l A' d w' := by
  have HH := Lib.hid h
  have HB := Lib.hid hb
  clear h hb
  go_enter Try.func87, Try.ntmps87
  go_wp2_with fail
  refine (l25Ask_any A n c bs _ HH.out HB.out hn).mono ?_
  rintro e w1 ⟨l, A', d, s, x, rfl, hss, hx, hl, hgd, sl, b1⟩
  have z1 := b1.size
  have HG := Lib.hid hgd
  clear hgd
  go_wp2_with fail
  refine (l00From_any A n c bs _ ((HH.out.on (Nat.le_refl _) b1).more z1) HB.out hn).mono ?_
  rintro e w2 ⟨rfl, s2, b2, z2⟩
  have sl2 := sl.on b2
  have HB2 := Lib.hid (bnext b1 b2 (Nat.le_refl _))
  clear b2 sl
  go_wp2_with fail
  refine (one_any _ _ 8 _ s2 (by omega) ⟨by omega, by omega⟩).mono ?_
  rintro e w3 ⟨b3, rfl, s3, o3⟩
  have z3 := o3.size
  have HB3 := Lib.hid (HB2.out.trans (o3.below (B := w.heap.size) (by omega) (by omega)))
  have HSL3 := Lib.hid (sl2.apart o3 (Or.inl (by omega)))
  clear o3 sl2 s2
  rcases b3 with _ | _
  · go_wp2_with fail
    refine (l00Min_any x _ hx).mono ?_
    rintro e w' ⟨mn, rfl, hmn, hmn2, rfl⟩
    go_wp2_with fail
    refine (l00Max0_any mn _ hmn).mono ?_
    rintro e w' ⟨rfl, rfl⟩
    obtain ⟨hp0, hp1⟩ := pos0_le hmn2 (by omega)
    generalize pos0 mn = pm at *
    go_wp2_with fail
    refine (pick_any _ _ 60 _ s3 (by omega) ⟨by omega, by omega⟩).mono ?_
    rintro e w4 ⟨x4, rfl, hx4, s4, o4⟩
    have hx4a := hx4.lt (by omega)
    have hx4b := hx4.1
    have z4 := o4.size
    have HB4 := Lib.hid (HB3.out.trans (o4.below (B := w.heap.size) (by omega) (by omega)))
    have HSL4 := Lib.hid ((HSL3.out.apart o4 (Or.inl (by omega))).wide (Nat.le_refl _) (hi' := w4.heap.size) (by omega))
    clear hx4 o4 s3
    go_wp2
    refine bodyPost_ret (v := .tuple #[.slice A' l.length d, .int .i64 x, .int .i64 (pm + x4)]) (by simp [results, Try.results87, go_sem]) rfl ?_
    exact ⟨l, A', d, x, pm + x4, rfl, hx, ⟨by omega, by omega⟩, hl, HG.out, HSL4.out, HB4.out⟩
  · go_wp2_with fail
    refine (among_any _ _ w3.heap.size 4 2 [-1, x, 20000, 20001] _ (s3.alloc _) (by omega) (Blk.new w3 _ _) rfl (by omega) (by omega) (by omega)).mono ?_
    rintro e w4 ⟨y, rfl, hy, s4, o4⟩
    have hyi : I64 y := by
      simp only [List.mem_cons, List.not_mem_nil, or_false] at hy
      unfold I64 at hx ⊢
      rcases hy with h | h | h | h <;> omega
    have z4 := o4.size
    simp at z4
    have HB4 := Lib.hid ((HB3.out.alloc (by omega) (.cells #[.int .i64 (-1), .int .i64 x, .int .i64 (20000), .int .i64 (20001)] 2)).trans (o4.below (B := w.heap.size) (by omega) (by simp; omega)))
    have HSL4 := Lib.hid (((HSL3.out.up (.cells #[.int .i64 (-1), .int .i64 x, .int .i64 (20000), .int .i64 (20001)] 2)).apart o4 (Or.inl (by omega))).wide (Nat.le_refl _) (hi' := w4.heap.size) (by omega))
    clear hy o4 s3
    go_wp2
    refine bodyPost_ret (v := .tuple #[.slice A' l.length d, .int .i64 x, .int .i64 y]) (by simp [results, Try.results87, go_sem]) rfl ?_
    exact ⟨l, A', d, x, y, rfl, hx, hyi, hl, HG.out, HSL4.out, HB4.out⟩

set_option maxRecDepth 100000 in
theorem drawInterestOn_any (A : Option Addr) (n c : Nat) (bs : List Int) (w : World) (h : Reads w w.heap.size 1 A n (byts bs)) (hb : ∀ x ∈ bs, Byt x) (hn : n ≤ 9223372036854775807) :
    Calls Try.prog 90 #[.slice A n c] w fun e w' => ∃ (l : List Bk) (A' : Option Addr) (d : Nat) (s : ByteArray) (x y z : Int), e = .returned (.tuple #[.slice A' l.length d, .string s, .int .i64 x, .int .i64 y, .int .i64 z]) ∧ s.size ≤ 12 ∧ I64 x ∧ I64 y ∧ I64 z ∧ BksOut w l A' d w' := by
  have HH := Lib.hid h
  have HB := Lib.hid hb
  clear h hb
  go_enter Try.func90, Try.ntmps90
  go_wp2_with fail
  refine (l25Ask_any A n c bs _ HH.out HB.out hn).mono ?_
  rintro e w1 ⟨l, A', d, s, x, rfl, hss, hx, hl, hgd, sl, b1⟩
  have z1 := b1.size
  have HG := Lib.hid hgd
  clear hgd
  go_wp2_with fail
  refine (l00From_any A n c bs _ ((HH.out.on (Nat.le_refl _) b1).more z1) HB.out hn).mono ?_
  rintro e w2 ⟨rfl, s2, b2, z2⟩
  have sl2 := sl.on b2
  have HB2 := Lib.hid (bnext b1 b2 (Nat.le_refl _))
  clear b2 sl
  go_wp2_with fail
  refine (l00Min_any x _ hx).mono ?_
  rintro e w' ⟨mn, rfl, hmn, hmn2, rfl⟩
  go_wp2_with fail
  refine (l00Max0_any mn _ hmn).mono ?_
  rintro e w' ⟨rfl, rfl⟩
  obtain ⟨hp0, hp1⟩ := pos0_le hmn2 (by omega)
  generalize pos0 mn = pm at *
  go_wp2_with fail
  refine (pick_any _ _ 40 _ s2 (by omega) ⟨by omega, by omega⟩).mono ?_
  rintro e w3 ⟨x3, rfl, hx3, s3, o3⟩
  have hx3a := hx3.lt (by omega)
  have hx3b := hx3.1
  have z3 := o3.size
  have HB3 := Lib.hid (HB2.out.trans (o3.below (B := w.heap.size) (by omega) (by omega)))
  have HSL3 := Lib.hid (sl2.apart o3 (Or.inl (by omega)))
  clear hx3 o3 sl2 s2
  go_wp2_with fail
  refine (one_any _ _ 10 _ s3 (by omega) ⟨by omega, by omega⟩).mono ?_
  rintro e w4 ⟨b4, rfl, s4, o4⟩
  have z4 := o4.size
  have HB4 := Lib.hid (HB3.out.trans (o4.below (B := w.heap.size) (by omega) (by omega)))
  have HSL4 := Lib.hid (HSL3.out.apart o4 (Or.inl (by omega)))
  clear o4 s3
  go_upto_if 27 with fail
  go_cut [11] (fun s11 wx => ∃ y : Int, I64 y ∧ s11 = .int .i64 y ∧ Src w1.heap.size 20 wx ∧ Below w.heap.size w wx ∧ Sl wx w.heap.size w1.heap.size 45 3 A' l.length d (bks l) ∧ w2.heap.size ≤ wx.heap.size)
  case first =>
    rcases b4 with _ | _
    · go_wp2_with fail
      go_meet
      exact ⟨pm + x3, ⟨by omega, by omega⟩, rfl, s4.more (by omega), HB4.out, HSL4.out, by omega⟩
    · go_wp2_with fail
      refine (among_any _ _ w4.heap.size 3 2 [-1, x, 20001] _ (s4.alloc _) (by omega) (Blk.new w4 _ _) rfl (by omega) (by omega) (by omega)).mono ?_
      rintro e w5 ⟨y, rfl, hy, s5, o5⟩
      have hyi : I64 y := by
        simp only [List.mem_cons, List.not_mem_nil, or_false] at hy
        unfold I64 at hx ⊢
        rcases hy with h | h | h <;> omega
      have z5 := o5.size
      simp at z5
      have HB5 := Lib.hid ((HB4.out.alloc (by omega) (.cells #[.int .i64 (-1), .int .i64 x, .int .i64 (20001)] 2)).trans (o5.below (B := w.heap.size) (by omega) (by simp; omega)))
      have HSL5 := Lib.hid ((HSL4.out.up (.cells #[.int .i64 (-1), .int .i64 x, .int .i64 (20001)] 2)).apart o5 (Or.inl (by omega)))
      clear hy o5
      go_wp2_with fail
      go_meet
      exact ⟨y, hyi, rfl, s5.more (by omega), HB5.out, HSL5.out, by omega⟩
  case rest =>
    obtain ⟨y, hyi, rfl, s5, b5, sl5, z5⟩ := hcut
    have HB5 := Lib.hid b5
    have HSL5 := Lib.hid sl5
    clear b5 sl5 s4
    go_wp2_with fail
    refine (one_any _ _ 10 _ s5 (by omega) ⟨by omega, by omega⟩).mono ?_
    rintro e w6 ⟨b6, rfl, s6, o6⟩
    have z6 := o6.size
    have HB6 := Lib.hid (HB5.out.trans (o6.below (B := w.heap.size) (by omega) (by omega)))
    have HSL6 := Lib.hid (HSL5.out.apart o6 (Or.inl (by omega)))
    clear o6 s5
    rcases b6 with _ | _
    · go_wp2_with fail
      refine (pick_any _ _ 100 _ s6 (by omega) ⟨by omega, by omega⟩).mono ?_
      rintro e w7 ⟨x7, rfl, hx7, s7, o7⟩
      have hxi : I64 x7 := ⟨by have := hx7.1; omega, by have := hx7.2.2.2; omega⟩
      have z7 := o7.size
      have HB7 := Lib.hid (HB6.out.trans (o7.below (B := w.heap.size) (by omega) (by omega)))
      have HSL7 := Lib.hid ((HSL6.out.apart o7 (Or.inl (by omega))).wide (Nat.le_refl _) (hi' := w7.heap.size) (by omega))
      clear hx7 o7
      go_wp2
      refine bodyPost_ret (v := .tuple #[.slice A' l.length d, .string s, .int .i64 x, .int .i64 y, .int .i64 x7]) (by simp [results, Try.results90, go_sem]) rfl ?_
      exact ⟨l, A', d, s, x, y, x7, rfl, hss, hx, hyi, hxi, hl, HG.out, HSL7.out, HB7.out⟩
    · go_wp2_with fail
      refine (among_any _ _ w6.heap.size 4 2 [-1, 0, 1000, 1001] _ (s6.alloc _) (by omega) (Blk.new w6 _ _) rfl (by omega) (by omega) (by omega)).mono ?_
      rintro e w7 ⟨x7, rfl, hx7, s7, o7⟩
      have hxi : I64 x7 := by
        simp only [List.mem_cons, List.not_mem_nil, or_false] at hx7
        unfold I64
        rcases hx7 with h | h | h | h <;> omega
      have z7 := o7.size
      simp at z7
      have HB7 := Lib.hid ((HB6.out.alloc (by omega) (.cells #[.int .i64 (-1), .int .i64 (0), .int .i64 (1000), .int .i64 (1001)] 2)).trans (o7.below (B := w.heap.size) (by omega) (by simp; omega)))
      have HSL7 := Lib.hid (((HSL6.out.up (.cells #[.int .i64 (-1), .int .i64 (0), .int .i64 (1000), .int .i64 (1001)] 2)).apart o7 (Or.inl (by omega))).wide (Nat.le_refl _) (hi' := w7.heap.size) (by omega))
      clear hx7 o7
      go_wp2
      refine bodyPost_ret (v := .tuple #[.slice A' l.length d, .string s, .int .i64 x, .int .i64 y, .int .i64 x7]) (by simp [results, Try.results90, go_sem]) rfl ?_
      exact ⟨l, A', d, s, x, y, x7, rfl, hss, hx, hyi, hxi, hl, HG.out, HSL7.out, HB7.out⟩

end Go.Proofs.Ytnlghcpidlpfkaa
