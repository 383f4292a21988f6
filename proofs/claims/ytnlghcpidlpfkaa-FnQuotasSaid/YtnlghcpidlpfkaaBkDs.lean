/- Bookings, now and then spoilt; what the laws' draws of bookings give. -/
import Derived.Test.YtnlghcpidlpfkaaBkDr
set_option linter.unusedVariables false
set_option linter.unusedSimpArgs false
namespace Go.Proofs.Ytnlghcpidlpfkaa
open Go.RowKit

/-- What spoiling leaves: at most one cell of the booking turned. -/
def Spoilt (g k b o : Nat) (w : World) (w' : World) : Prop :=
  ∃ w1, Src g (k + 4) w1 ∧ Only g (g + 1) w w1 ∧ (w' = w1 ∨ (∃ z, I64 z ∧ w' = w1.setCell ⟨b, o, none⟩ (.int .i64 z)) ∨ (∃ s : ByteArray, s.size ≤ 12 ∧ w' = w1.setCell ⟨b, o + 1, none⟩ (.string s)) ∨ (∃ z, I64 z ∧ w' = w1.setCell ⟨b, o + 2, none⟩ (.int .i64 z)))
set_option maxHeartbeats 4000000 in
set_option maxRecDepth 100000 in
theorem l25Spoil_any (g k b o : Nat) (u0 u1 u2 : Value) (w : World) (h : Src g k w) (hk : k ≤ 10000000000) (hgb : g < b) (hb : b < w.heap.size)
    (c0 : w.cell? ⟨b, o, none⟩ = some u0) (c1 : w.cell? ⟨b, o + 1, none⟩ = some u1) (c2 : w.cell? ⟨b, o + 2, none⟩ = some u2) (f0 : w.frozen? ⟨b, o, none⟩ = false) (f1 : w.frozen? ⟨b, o + 1, none⟩ = false) (f2 : w.frozen? ⟨b, o + 2, none⟩ = false) :
    Calls Try.prog 224 #[.pointer (some ⟨g, 0, none⟩), .pointer (some ⟨b, o, none⟩)] w fun e w' => e = .returned (.tuple #[]) ∧ Spoilt g k b o w w' := by
  have C0 := Lib.hid c0
  have C1 := Lib.hid c1
  have C2 := Lib.hid c2
  have F0 := Lib.hid f0
  have F1 := Lib.hid f1
  have F2 := Lib.hid f2
  clear c0 c1 c2 f0 f1 f2
  go_enter Try.func224, Try.ntmps224
  go_wp2_with fail
  refine (pick_any g k 3 _ h (by omega) ⟨by omega, by omega⟩).mono ?_
  rintro e w1 ⟨x1, rfl, hx1, s1, o1⟩
  clear hx1 h
  have z1 := o1.size
  have bq := o1.block b hb (by omega)
  have c10 := (World.cell?_of_block (a := ⟨b, o, none⟩) bq).trans C0.out
  have c11 := (World.cell?_of_block (a := ⟨b, o + 1, none⟩) bq).trans C1.out
  have c12 := (World.cell?_of_block (a := ⟨b, o + 2, none⟩) bq).trans C2.out
  have f10 := (World.frozen?_of_block (a := ⟨b, o, none⟩) bq).trans F0.out
  have f11 := (World.frozen?_of_block (a := ⟨b, o + 1, none⟩) bq).trans F1.out
  have f12 := (World.frozen?_of_block (a := ⟨b, o + 2, none⟩) bq).trans F2.out
  have HO1 := Lib.hid o1
  clear o1 bq

  by_cases h0 : x1 = 0
  · subst h0
    go_wp2_with fail
    refine (among_any g _ w1.heap.size 4 2 [-1, 0, 20000, 20001] _ (s1.alloc _) (by omega) (Blk.new w1 _ _) rfl (by omega) (by omega) (by omega)).mono ?_
    rintro e w2 ⟨z, rfl, hz, s2, o2⟩
    have hzi := show I64 z by simp only [List.mem_cons, List.not_mem_nil, or_false] at hz; unfold I64; omega
    clear hz
    have z2 := o2.size
    simp at z2
    have bk : (w1.alloc (.cells #[.int .i64 (-1), .int .i64 (0), .int .i64 (20000), .int .i64 (20001)] 2)).heap[b]? = w1.heap[b]? := Below.heap_alloc w1 _ b (by omega)
    have bk2 := o2.block b (by simp; omega) (by omega)
    have c2 := (World.cell?_of_block (a := ⟨b, o, none⟩) (bk2.trans bk)).trans c10
    have f2 := (World.frozen?_of_block (a := ⟨b, o, none⟩) (bk2.trans bk)).trans f10
    have HO := Lib.hid ((HO1.out.alloc (.cells #[.int .i64 (-1), .int .i64 (0), .int .i64 (20000), .int .i64 (20001)] 2)).trans o2)
    clear bk bk2 o2
    go_wp2
    go_end0
    exact ⟨rfl, w2, s2.more (by omega), HO.out, .inr (.inl ⟨z, hzi, rfl⟩)⟩
  by_cases h1 : x1 = 1
  · subst h1
    go_wp2_with fail
    refine (text_any g _ w1.heap.size 3 9 [⟨#[]⟩, ⟨#[66, 97, 110, 107]⟩, ⟨#[98, 97, 110, 107]⟩] _ (s1.alloc _) (by omega) (Blk.new w1 _ _) rfl (by omega) (by omega) (by omega)).mono ?_
    rintro e w2 ⟨z, rfl, hz, s2, o2⟩
    have hzi := texts_small.2.1 hz
    clear hz
    have z2 := o2.size
    simp at z2
    have bk : (w1.alloc (.cells #[.string ⟨#[]⟩, .string ⟨#[66, 97, 110, 107]⟩, .string ⟨#[98, 97, 110, 107]⟩] 9)).heap[b]? = w1.heap[b]? := Below.heap_alloc w1 _ b (by omega)
    have bk2 := o2.block b (by simp; omega) (by omega)
    have c2 := (World.cell?_of_block (a := ⟨b, o + 1, none⟩) (bk2.trans bk)).trans c11
    have f2 := (World.frozen?_of_block (a := ⟨b, o + 1, none⟩) (bk2.trans bk)).trans f11
    have HO := Lib.hid ((HO1.out.alloc (.cells #[.string ⟨#[]⟩, .string ⟨#[66, 97, 110, 107]⟩, .string ⟨#[98, 97, 110, 107]⟩] 9)).trans o2)
    clear bk bk2 o2
    go_wp2
    go_end0
    exact ⟨rfl, w2, s2.more (by omega), HO.out, .inr (.inr (.inl ⟨z, hzi, rfl⟩))⟩
  by_cases h2 : x1 = 2
  · subst h2
    go_wp2_with fail
    refine (among_any g _ w1.heap.size 7 2 [0, 1, -1000000001, -1000000000, 1000000000, 1000000001, -9223372036854775808] _ (s1.alloc _) (by omega) (Blk.new w1 _ _) rfl (by omega) (by omega) (by omega)).mono ?_
    rintro e w2 ⟨z, rfl, hz, s2, o2⟩
    have hzi := show I64 z by simp only [List.mem_cons, List.not_mem_nil, or_false] at hz; unfold I64; omega
    clear hz
    have z2 := o2.size
    simp at z2
    have bk : (w1.alloc (.cells #[.int .i64 (0), .int .i64 (1), .int .i64 (-1000000001), .int .i64 (-1000000000), .int .i64 (1000000000), .int .i64 (1000000001), .int .i64 (-9223372036854775808)] 2)).heap[b]? = w1.heap[b]? := Below.heap_alloc w1 _ b (by omega)
    have bk2 := o2.block b (by simp; omega) (by omega)
    have c2 := (World.cell?_of_block (a := ⟨b, o + 2, none⟩) (bk2.trans bk)).trans c12
    have f2 := (World.frozen?_of_block (a := ⟨b, o + 2, none⟩) (bk2.trans bk)).trans f12
    have HO := Lib.hid ((HO1.out.alloc (.cells #[.int .i64 (0), .int .i64 (1), .int .i64 (-1000000001), .int .i64 (-1000000000), .int .i64 (1000000000), .int .i64 (1000000001), .int .i64 (-9223372036854775808)] 2)).trans o2)
    clear bk bk2 o2
    go_wp2
    go_end0
    exact ⟨rfl, w2, s2.more (by omega), HO.out, .inr (.inr (.inr ⟨z, hzi, rfl⟩))⟩
  · have h0' : (x1 == 0) = false := by rw [beq_eq_false_iff_ne]; exact h0
    have h1' : (x1 == 1) = false := by rw [beq_eq_false_iff_ne]; exact h1
    have h2' : (x1 == 2) = false := by rw [beq_eq_false_iff_ne]; exact h2
    go_wp2
    go_end0
    exact ⟨rfl, w1, s1.more (by omega), HO1.out, .inl rfl⟩

set_option maxHeartbeats 4000000 in
set_option maxRecDepth 100000 in
theorem l25Bent_any (g k : Nat) (w : World) (h : Src g k w) (hk : k ≤ 1000000000) :
    Calls Try.prog 184 #[.pointer (some ⟨g, 0, none⟩)] w fun e w' => BkDrawn g k 1010 w e w' := by
  have hgw := h.lt
  go_enter Try.func184, Try.ntmps184
  go_wp2_with fail
  refine (l25Draw_any g k _ h (by omega)).mono ?_
  rintro e w1 ⟨l, A, d, rfl, hl, hgd, sl1, s1, o1⟩
  have z1 := o1.size
  have HO1 := Lib.hid o1
  have HSL1 := Lib.hid sl1
  have HG := Lib.hid hgd
  clear o1 sl1 hgd h
  rcases Nat.eq_zero_or_pos l.length with h0 | h0
  · have hd0 : decide ((0 : Int) < (l.length : Int)) = false := by rw [decide_eq_false_iff_not]; omega
    have hd1 : decide (0 < l.length) = false := by rw [decide_eq_false_iff_not]; omega
    clear h0
    go_wp2
    go_ret
    exact ⟨l, A, d, rfl, hl, HG.out, HSL1.out, s1.more (by omega), HO1.out⟩
  · have hd0 : decide ((0 : Int) < (l.length : Int)) = true := by rw [decide_eq_true_iff]; omega
    obtain ⟨go, rfl, hgo1, hgo2, hgo3⟩ := HSL1.out.lt h0
    go_wp2_with fail
    refine (one_any g _ 10 _ s1 (by omega) ⟨by omega, by omega⟩).mono ?_
    rintro e w2 ⟨b2, rfl, s2, o2⟩
    have z2 := o2.size
    have HO2 := Lib.hid (HO1.out.trans o2)
    have HSL2 := Lib.hid (HSL1.out.apart o2 (Or.inr (by omega)))
    clear o2 s1
    rcases b2 with _ | _
    · go_wp2
      go_ret
      exact ⟨l, _, d, rfl, hl, HG.out, HSL2.out.wide (Nat.le_refl _) (by omega), s2.more (by omega), HO2.out⟩
    · go_wp2_with fail
      refine (pick_any g _ l.length _ s2 (by omega) ⟨by omega, by omega⟩).mono ?_
      rintro e w3 ⟨x3, rfl, hx3, s3, o3⟩
      have hx3a := hx3.lt (by omega)
      have hx3b := hx3.1
      clear hx3 s2
      have z3 := o3.size
      have HO3 := Lib.hid (HO2.out.trans o3)
      have HSL3 := Lib.hid (HSL2.out.apart o3 (Or.inr (by omega)))
      clear o3
      obtain ⟨j, rfl⟩ := Int.eq_ofNat_of_zero_le hx3b
      have hj : j < l.length := by omega
      obtain ⟨e0, e1, e2⟩ := bks_get (List.getElem?_eq_getElem hj)
      have q0 := (HSL3.out.cellAt (j * 3) (by omega)).trans e0
      have q1 := (HSL3.out.cellAt (j * 3 + 1) (by omega)).trans e1
      have q2 := (HSL3.out.cellAt (j * 3 + 2) (by omega)).trans e2
      have hj0 : (0 : Int) ≤ j := by omega
      clear e0 e1 e2
      go_wp2_with fail
      refine (l25Spoil_any g _ go (j * 3) _ _ _ _ s3 (by omega) (by omega) (by omega) q0 q1 q2 (HSL3.out.frozenAt _) (HSL3.out.frozenAt _) (HSL3.out.frozenAt _)).mono ?_
      rintro e w5 ⟨rfl, w4, s4, o4, hw5⟩
      have z4 := o4.size
      have HO4 := Lib.hid (HO3.out.trans o4)
      have HSL4 := Lib.hid (HSL3.out.apart o4 (Or.inr (by omega)))
      clear q0 q1 q2 o4 s3
      obtain ⟨b1, b2, b3⟩ := bks_set l j hj HG.out
      have key : BkDrawn g k 1010 w (.returned (.slice (some ⟨go, 0, none⟩) l.length d)) w5 := by
        rcases hw5 with rfl | ⟨z, hz, rfl⟩ | ⟨z, hz, rfl⟩ | ⟨z, hz, rfl⟩
        · exact ⟨l, _, d, rfl, hl, HG.out, HSL4.out.wide (Nat.le_refl _) (by omega), s4.more (by omega), HO4.out⟩
        · obtain ⟨l', e1, e2, e3⟩ := b1 z hz
          refine ⟨l', some ⟨go, 0, none⟩, d, by rw [e1], by omega, e2, ?_, (s4.set_ (by simp; omega) _).more (by omega), HO4.out.far (by simp; omega) _⟩
          have := (HSL4.out.set_ (j * 3) (.int .i64 z)).wide (Nat.le_refl _) (hi' := (w4.setCell ⟨go, j * 3, none⟩ (.int .i64 z)).heap.size) (by simp [World.setCell]; omega)
          rw [e3] at this; rw [e1]; exact this
        · obtain ⟨l', e1, e2, e3⟩ := b2 z hz
          refine ⟨l', some ⟨go, 0, none⟩, d, by rw [e1], by omega, e2, ?_, (s4.set_ (by simp; omega) _).more (by omega), HO4.out.far (by simp; omega) _⟩
          have := (HSL4.out.set_ (j * 3 + 1) (.string z)).wide (Nat.le_refl _) (hi' := (w4.setCell ⟨go, j * 3 + 1, none⟩ (.string z)).heap.size) (by simp [World.setCell]; omega)
          rw [e3] at this; rw [e1]; exact this
        · obtain ⟨l', e1, e2, e3⟩ := b3 z hz
          refine ⟨l', some ⟨go, 0, none⟩, d, by rw [e1], by omega, e2, ?_, (s4.set_ (by simp; omega) _).more (by omega), HO4.out.far (by simp; omega) _⟩
          have := (HSL4.out.set_ (j * 3 + 2) (.int .i64 z)).wide (Nat.le_refl _) (hi' := (w4.setCell ⟨go, j * 3 + 2, none⟩ (.int .i64 z)).heap.size) (by simp [World.setCell]; omega)
          rw [e3] at this; rw [e1]; exact this
      have KEY := Lib.hid key
      clear key hw5 b1 b2 b3 s4
      go_wp2
      go_ret
      exact KEY.out
theorem l25Client_any (g k : Nat) (w : World) (h : Src g k w) (hk : k ≤ 10000000000) :
    Calls Try.prog 221 #[.pointer (some ⟨g, 0, none⟩)] w fun e w' => ∃ s : ByteArray, e = .returned (.string s) ∧ s.size ≤ 12 ∧ Src g (k + 2) w' ∧ Only g (g + 1) w w' := by
  have hgw := h.lt
  go_enter Try.func221, Try.ntmps221
  go_wp2_with fail
  refine (text_any g _ w.heap.size 7 9 [⟨#[98, 97, 110, 107]⟩, ⟨#[98, 97, 110, 107]⟩, ⟨#[119, 97, 114, 100]⟩, ⟨#[108, 97, 98, 45, 50]⟩, ⟨#[110, 111, 110, 101]⟩, ⟨#[]⟩, ⟨#[66, 97, 110, 107]⟩] _ (h.alloc _) (by omega) (Blk.new w _ _) rfl (by omega) (by omega) (by omega)).mono ?_
  rintro e w1 ⟨s, rfl, hs, s1, o1⟩
  have hss := texts_small.2.2 hs
  have HO := Lib.hid (((Only.refl g (g + 1) w).alloc (.cells #[.string ⟨#[98, 97, 110, 107]⟩, .string ⟨#[98, 97, 110, 107]⟩, .string ⟨#[119, 97, 114, 100]⟩, .string ⟨#[108, 97, 98, 45, 50]⟩, .string ⟨#[110, 111, 110, 101]⟩, .string ⟨#[]⟩, .string ⟨#[66, 97, 110, 107]⟩] 9)).trans o1)
  clear hs o1
  go_wp2
  go_ret
  exact ⟨s, rfl, hss, s1, HO.out⟩
theorem l25DrawDay_any (g k : Nat) (w : World) (h : Src g k w) (hk : k ≤ 10000000000) :
    Calls Try.prog 222 #[.pointer (some ⟨g, 0, none⟩)] w fun e w' => ∃ x : Int, e = .returned (.int .i64 x) ∧ I64 x ∧ Src g (k + 4) w' ∧ Only g (g + 1) w w' := by
  have hgw := h.lt
  go_enter Try.func222, Try.ntmps222
  go_wp2_with fail
  refine (one_any g _ 10 _ h (by omega) ⟨by omega, by omega⟩).mono ?_
  rintro e w1 ⟨b1, rfl, s1, o1⟩
  have z1 := o1.size
  have HO1 := Lib.hid o1
  clear o1 h
  rcases b1 with _ | _
  · go_wp2_with fail
    refine (pick_any g _ 100 _ s1 (by omega) ⟨by omega, by omega⟩).mono ?_
    rintro e w2 ⟨x, rfl, hx, s2, o2⟩
    have HX := Lib.hid (show I64 x from ⟨by have := hx.1; omega, by have := hx.2.2.2; omega⟩)
    have HO2 := Lib.hid (HO1.out.trans o2)
    clear hx o2
    go_wp2
    go_ret
    exact ⟨x, rfl, HX.out, s2, HO2.out⟩
  · go_wp2_with fail
    refine (among_any g _ w1.heap.size 4 2 [-1, 0, 20001, -9223372036854775808] _ (s1.alloc _) (by omega) (Blk.new w1 _ _) rfl (by omega) (by omega) (by omega)).mono ?_
    rintro e w2 ⟨x, rfl, hx, s2, o2⟩
    have HX := Lib.hid (show I64 x by simp only [List.mem_cons, List.not_mem_nil, or_false] at hx; unfold I64; omega)
    have HO2 := Lib.hid ((HO1.out.alloc (.cells #[.int .i64 (-1), .int .i64 (0), .int .i64 (20001), .int .i64 (-9223372036854775808)] 2)).trans o2)
    clear hx o2
    go_wp2
    go_ret
    exact ⟨x, rfl, HX.out, s2, HO2.out⟩
/-- Bookings, as the laws draw them. -/
def BksOut (w : World) (l : List Bk) (A : Option Addr) (d : Nat) (w' : World) : Prop := l.length ≤ 81 ∧ GoodB l ∧ Sl w' w.heap.size w'.heap.size 45 3 A l.length d (bks l) ∧ Below w.heap.size w w'
set_option maxRecDepth 100000 in
theorem l25Ask_any (A : Option Addr) (n c : Nat) (bs : List Int) (w : World) (h : Reads w w.heap.size 1 A n (byts bs)) (hb : ∀ x ∈ bs, Byt x) (hn : n ≤ 9223372036854775807) :
    Calls Try.prog 181 #[.slice A n c] w fun e w' => ∃ (l : List Bk) (A' : Option Addr) (d : Nat) (s : ByteArray) (x : Int), e = .returned (.tuple #[.slice A' l.length d, .string s, .int .i64 x]) ∧ s.size ≤ 12 ∧ I64 x ∧ BksOut w l A' d w' := by
  have HH := Lib.hid h
  have HB := Lib.hid hb
  clear h hb
  go_enter Try.func181, Try.ntmps181
  go_wp2_with fail
  refine (l00From_any A n c bs _ HH.out HB.out hn).mono ?_
  rintro e w1 ⟨rfl, s1, b1, z1⟩
  go_wp2_with fail
  refine (l25Bent_any _ 0 _ s1 (by omega)).mono ?_
  rintro e w2 ⟨l, A', d, rfl, hl, hgd, sl, s2, o2⟩
  have z2 := o2.size
  have HG := Lib.hid hgd
  clear hgd
  go_wp2_with fail
  refine (l25Client_any _ _ _ s2 (by omega)).mono ?_
  rintro e w3 ⟨s, rfl, hss, s3, o3⟩
  have z3 := o3.size
  go_wp2_with fail
  refine (l25DrawDay_any _ _ _ s3 (by omega)).mono ?_
  rintro e w4 ⟨x, rfl, hx, s4, o4⟩
  have z4 := o4.size
  have HSL := Lib.hid ((((sl.apart o3 (Or.inr (by omega))).apart o4 (Or.inr (by omega))).wide (lo' := w.heap.size) (by omega) (hi' := w4.heap.size) (by omega)))
  have HBel := Lib.hid (b1.trans (((o2.trans o3).trans o4).below (Nat.le_refl _) (by omega)))
  clear sl o2 o3 o4 b1
  go_wp2
  refine bodyPost_ret (v := .tuple #[.slice A' l.length d, .string s, .int .i64 x]) (by simp [results, Try.results181, go_sem]) rfl ?_
  exact ⟨l, A', d, s, x, rfl, hss, hx, hl, HG.out, HSL.out, HBel.out⟩
end Go.Proofs.Ytnlghcpidlpfkaa
