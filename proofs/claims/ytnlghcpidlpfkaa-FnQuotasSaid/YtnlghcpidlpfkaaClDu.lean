/- The laws' draws for the quota of a station, for what is left of a quota, and for the contracts that end in a span. -/
import Derived.Test.YtnlghcpidlpfkaaClDt
set_option linter.unusedVariables false
set_option linter.unusedSimpArgs false
namespace Go.Proofs.Ytnlghcpidlpfkaa
open Go.RowKit

set_option maxRecDepth 100000 in
theorem drawQuotaOn_any (A : Option Addr) (n c : Nat) (bs : List Int) (w : World) (h : Reads w w.heap.size 1 A n (byts bs)) (hb : ∀ x ∈ bs, Byt x) (hn : n ≤ 9223372036854775807) :
    Calls Try.prog 72 #[.slice A n c] w fun e w' => ∃ (l : List Cl) (A' : Option Addr) (d : Nat) (st x : Int), e = .returned (.tuple #[.slice A' l.length d, .int .i64 st, .int .i64 x]) ∧ I64 st ∧ I64 x ∧ ClsOut w l A' d w' := by
  have HH := Lib.hid h
  have HB := Lib.hid hb
  clear h hb
  go_enter Try.func72, Try.ntmps72
  go_wp2_with fail
  refine (l24Dated_any A n c bs _ HH.out HB.out hn).mono ?_
  rintro e w1 ⟨l, A', d, x, rfl, hx, hl, hgd, sl, b1⟩
  have z1 := b1.size
  have HG := Lib.hid hgd
  clear hgd
  go_wp2_with fail
  refine (l00From_any A n c bs _ ((HH.out.on (Nat.le_refl _) b1).more z1) HB.out hn).mono ?_
  rintro e w2 ⟨rfl, s2, b2, z2⟩
  have sl2 := sl.on b2
  have HB2 := Lib.hid (bnext b1 b2 (Nat.le_refl _))
  clear b2 sl
  go_wp2_with fail
  refine (one_any _ _ 10 _ s2 (by omega) ⟨by omega, by omega⟩).mono ?_
  rintro e w3 ⟨b3, rfl, s3, o3⟩
  have z3 := o3.size
  have HB3 := Lib.hid (HB2.out.trans (o3.below (B := w.heap.size) (by omega) (by omega)))
  have HSL3 := Lib.hid (sl2.apart o3 (Or.inl (by omega)))
  clear o3 sl2 s2
  rcases b3 with _ | _
  · skip
    go_wp2_with fail
    refine (pick_any _ _ 4 _ s3 (by omega) ⟨by omega, by omega⟩).mono ?_
    rintro e w4 ⟨x4, rfl, hx4, s4, o4⟩
    have hx4a := hx4.lt (by omega)
    have hx4b := hx4.1
    have z4 := o4.size
    have HB4 := Lib.hid (HB3.out.trans (o4.below (B := w.heap.size) (by omega) (by omega)))
    have HSL4 := Lib.hid ((HSL3.out.apart o4 (Or.inl (by omega))).wide (Nat.le_refl _) (hi' := w4.heap.size) (by omega))
    clear hx4 o4 s3
    go_wp2
    refine bodyPost_ret (v := .tuple #[.slice A' l.length d, .int .i64 x4, .int .i64 x]) (by simp [results, Try.results72, go_sem]) rfl ?_
    exact ⟨l, A', d, x4, x, rfl, ⟨by omega, by omega⟩, hx, hl, HG.out, HSL4.out, HB4.out⟩
  · skip
    go_wp2_with fail
    refine (among_any _ _ w3.heap.size 4 2 [-1, 0, 9, 10] _ (s3.alloc _) (by omega) (Blk.new w3 _ _) rfl (by omega) (by omega) (by omega)).mono ?_
    rintro e w4 ⟨y, rfl, hy, s4, o4⟩
    have hyi : I64 y := by
      simp only [List.mem_cons, List.not_mem_nil, or_false] at hy
      unfold I64 at hx ⊢
      rcases hy with h | h | h | h <;> omega
    have z4 := o4.size
    simp at z4
    have HB4 := Lib.hid ((HB3.out.alloc (by omega) (.cells #[.int .i64 (-1), .int .i64 (0), .int .i64 (9), .int .i64 (10)] 2)).trans (o4.below (B := w.heap.size) (by omega) (by simp; omega)))
    have HSL4 := Lib.hid (((HSL3.out.up (.cells #[.int .i64 (-1), .int .i64 (0), .int .i64 (9), .int .i64 (10)] 2)).apart o4 (Or.inl (by omega))).wide (Nat.le_refl _) (hi' := w4.heap.size) (by omega))
    clear hy o4 s3
    go_wp2
    refine bodyPost_ret (v := .tuple #[.slice A' l.length d, .int .i64 y, .int .i64 x]) (by simp [results, Try.results72, go_sem]) rfl ?_
    exact ⟨l, A', d, y, x, rfl, hyi, hx, hl, HG.out, HSL4.out, HB4.out⟩

set_option maxRecDepth 100000 in
theorem drawEndsBetween_any (A : Option Addr) (n c : Nat) (bs : List Int) (w : World) (h : Reads w w.heap.size 1 A n (byts bs)) (hb : ∀ x ∈ bs, Byt x) (hn : n ≤ 9223372036854775807) :
    Calls Try.prog 80 #[.slice A n c] w fun e w' => ∃ (l : List Cl) (A' : Option Addr) (d : Nat) (x y : Int), e = .returned (.tuple #[.slice A' l.length d, .int .i64 x, .int .i64 y]) ∧ I64 x ∧ I64 y ∧ ClsOut w l A' d w' := by
  have HH := Lib.hid h
  have HB := Lib.hid hb
  clear h hb
  go_enter Try.func80, Try.ntmps80
  go_wp2_with fail
  refine (l24Dated_any A n c bs _ HH.out HB.out hn).mono ?_
  rintro e w1 ⟨l, A', d, x, rfl, hx, hl, hgd, sl, b1⟩
  have z1 := b1.size
  have HG := Lib.hid hgd
  clear hgd
  go_wp2_with fail
  refine (l00From_any A n c bs _ ((HH.out.on (Nat.le_refl _) b1).more z1) HB.out hn).mono ?_
  rintro e w2 ⟨rfl, s2, b2, z2⟩
  have sl2 := sl.on b2
  have HB2 := Lib.hid (bnext b1 b2 (Nat.le_refl _))
  clear b2 sl
  go_wp2_with fail
  refine (one_any _ _ 8 _ s2 (by omega) ⟨by omega, by omega⟩).mono ?_
  rintro e w3 ⟨b3, rfl, s3, o3⟩
  have z3 := o3.size
  have HB3 := Lib.hid (HB2.out.trans (o3.below (B := w.heap.size) (by omega) (by omega)))
  have HSL3 := Lib.hid (sl2.apart o3 (Or.inl (by omega)))
  clear o3 sl2 s2
  rcases b3 with _ | _
  · go_wp2_with fail
    refine (l00Min_any x _ hx).mono ?_
    rintro e w' ⟨mn, rfl, hmn, hmn2, rfl⟩
    go_wp2_with fail
    refine (l00Max0_any mn _ hmn).mono ?_
    rintro e w' ⟨rfl, rfl⟩
    obtain ⟨hp0, hp1⟩ := pos0_le hmn2 (by omega)
    generalize pos0 mn = pm at *
    go_wp2_with fail
    refine (pick_any _ _ 50 _ s3 (by omega) ⟨by omega, by omega⟩).mono ?_
    rintro e w4 ⟨x4, rfl, hx4, s4, o4⟩
    have hx4a := hx4.lt (by omega)
    have hx4b := hx4.1
    have z4 := o4.size
    have HB4 := Lib.hid (HB3.out.trans (o4.below (B := w.heap.size) (by omega) (by omega)))
    have HSL4 := Lib.hid ((HSL3.out.apart o4 (Or.inl (by omega))).wide (Nat.le_refl _) (hi' := w4.heap.size) (by omega))
    clear hx4 o4 s3
    go_wp2
    refine bodyPost_ret (v := .tuple #[.slice A' l.length d, .int .i64 x, .int .i64 (pm + x4)]) (by simp [results, Try.results80, go_sem]) rfl ?_
    exact ⟨l, A', d, x, pm + x4, rfl, hx, ⟨by omega, by omega⟩, hl, HG.out, HSL4.out, HB4.out⟩
  · skip
    go_wp2_with fail
    refine (among_any _ _ w3.heap.size 4 2 [-1, x, 20000, 20001] _ (s3.alloc _) (by omega) (Blk.new w3 _ _) rfl (by omega) (by omega) (by omega)).mono ?_
    rintro e w4 ⟨y, rfl, hy, s4, o4⟩
    have hyi : I64 y := by
      simp only [List.mem_cons, List.not_mem_nil, or_false] at hy
      unfold I64 at hx ⊢
      rcases hy with h | h | h | h <;> omega
    have z4 := o4.size
    simp at z4
    have HB4 := Lib.hid ((HB3.out.alloc (by omega) (.cells #[.int .i64 (-1), .int .i64 (x), .int .i64 (20000), .int .i64 (20001)] 2)).trans (o4.below (B := w.heap.size) (by omega) (by simp; omega)))
    have HSL4 := Lib.hid (((HSL3.out.up (.cells #[.int .i64 (-1), .int .i64 (x), .int .i64 (20000), .int .i64 (20001)] 2)).apart o4 (Or.inl (by omega))).wide (Nat.le_refl _) (hi' := w4.heap.size) (by omega))
    clear hy o4 s3
    go_wp2
    refine bodyPost_ret (v := .tuple #[.slice A' l.length d, .int .i64 x, .int .i64 y]) (by simp [results, Try.results80, go_sem]) rfl ?_
    exact ⟨l, A', d, x, y, rfl, hx, hyi, hl, HG.out, HSL4.out, HB4.out⟩

set_option maxRecDepth 100000 in
theorem drawLeftOfQuota_any (A : Option Addr) (n c : Nat) (bs : List Int) (w : World) (h : Reads w w.heap.size 1 A n (byts bs)) (hb : ∀ x ∈ bs, Byt x) (hn : n ≤ 9223372036854775807) :
    Calls Try.prog 77 #[.slice A n c] w fun e w' => ∃ (l : List Cl) (A' : Option Addr) (d : Nat) (s : ByteArray) (x y : Int), e = .returned (.tuple #[.slice A' l.length d, .string s, .int .i64 x, .int .i64 y]) ∧ s.size ≤ 1048576 ∧ I64 x ∧ I64 y ∧ ClsOut w l A' d w' := by
  have HH := Lib.hid h
  have HB := Lib.hid hb
  clear h hb
  go_enter Try.func77, Try.ntmps77
  go_wp2_with fail
  refine (l00From_any A n c bs _ HH.out HB.out hn).mono ?_
  rintro e w1 ⟨rfl, s1, b1, z1⟩
  go_wp2_with fail
  refine (l24Bent_any _ 0 _ s1 (by omega)).mono ?_
  rintro e w2 ⟨l, A', d, rfl, hl, hgd, sl, s2, o2⟩
  have z2 := o2.size
  have HG := Lib.hid hgd
  clear hgd
  go_wp2_with fail
  refine (l24Name_any _ _ _ _ _ _ _ _ s2 (by omega) sl hl (by omega) (Nat.le_refl _) HG.out).mono ?_
  rintro e w2b ⟨s, rfl, hss, s2b, o2b⟩
  have z2b := o2b.size
  go_wp2_with fail
  refine (l24DrawDay_any _ _ _ s2b (by omega)).mono ?_
  rintro e w2c ⟨x, rfl, hx, s2c, o2c⟩
  have z2c := o2c.size
  have sl3 := (((sl.apart o2b (Or.inr (by omega))).apart o2c (Or.inr (by omega))).wide (lo' := w.heap.size) (by omega) (hi' := w2c.heap.size) (by omega))
  have HB2 := Lib.hid (b1.trans (((o2.trans o2b).trans o2c).below (Nat.le_refl _) (by omega)))
  have HSL2 := Lib.hid (((sl.apart o2b (Or.inr (by omega))).apart o2c (Or.inr (by omega))))
  clear sl sl3 o2 o2b o2c b1
  go_wp2_with fail
  refine (one_any _ _ 10 _ s2c (by omega) ⟨by omega, by omega⟩).mono ?_
  rintro e w3 ⟨b3, rfl, s3, o3⟩
  have z3 := o3.size
  have HB3 := Lib.hid (HB2.out.trans (o3.below (B := w.heap.size) (by omega) (by omega)))
  have HSL3 := Lib.hid ((HSL2.out.apart o3 (Or.inr (by omega))).wide (Nat.le_refl _) (hi' := w3.heap.size) (by omega))
  clear o3 s2c
  rcases b3 with _ | _
  · skip
    go_wp2_with fail
    refine (pick_any _ _ 40 _ s3 (by omega) ⟨by omega, by omega⟩).mono ?_
    rintro e w4 ⟨x4, rfl, hx4, s4, o4⟩
    have hx4a := hx4.lt (by omega)
    have hx4b := hx4.1
    have z4 := o4.size
    have HB4 := Lib.hid (HB3.out.trans (o4.below (B := w.heap.size) (by omega) (by omega)))
    have HSL4 := Lib.hid ((HSL3.out.apart o4 (Or.inr (by omega))).wide (lo' := w.heap.size) (by omega) (hi' := w4.heap.size) (by omega))
    clear hx4 o4 s3
    go_wp2
    refine bodyPost_ret (v := .tuple #[.slice A' l.length d, .string s, .int .i64 x, .int .i64 x4]) (by simp [results, Try.results77, go_sem]) rfl ?_
    exact ⟨l, A', d, s, x, x4, rfl, hss, hx, ⟨by omega, by omega⟩, hl, HG.out, HSL4.out, HB4.out⟩
  · skip
    go_wp2_with fail
    refine (among_any _ _ w3.heap.size 4 2 [-1, 0, 100000, 100001] _ (s3.alloc _) (by omega) (Blk.new w3 _ _) rfl (by omega) (by omega) (by omega)).mono ?_
    rintro e w4 ⟨y, rfl, hy, s4, o4⟩
    have hyi : I64 y := by
      simp only [List.mem_cons, List.not_mem_nil, or_false] at hy
      unfold I64 at hx ⊢
      rcases hy with h | h | h | h <;> omega
    have z4 := o4.size
    simp at z4
    have HB4 := Lib.hid ((HB3.out.alloc (by omega) (.cells #[.int .i64 (-1), .int .i64 (0), .int .i64 (100000), .int .i64 (100001)] 2)).trans (o4.below (B := w.heap.size) (by omega) (by simp; omega)))
    have HSL4 := Lib.hid (((HSL3.out.up (.cells #[.int .i64 (-1), .int .i64 (0), .int .i64 (100000), .int .i64 (100001)] 2)).apart o4 (Or.inr (by omega))).wide (lo' := w.heap.size) (by omega) (hi' := w4.heap.size) (by omega))
    clear hy o4 s3
    go_wp2
    refine bodyPost_ret (v := .tuple #[.slice A' l.length d, .string s, .int .i64 x, .int .i64 y]) (by simp [results, Try.results77, go_sem]) rfl ?_
    exact ⟨l, A', d, s, x, y, rfl, hss, hx, hyi, hl, HG.out, HSL4.out, HB4.out⟩

end Go.Proofs.Ytnlghcpidlpfkaa
