/- Rows of clients that are drawn; a client spoilt. -/
import Derived.Test.YtnlghcpidlpfkaaClDr
set_option linter.unusedVariables false
set_option linter.unusedSimpArgs false
namespace Go.Proofs.Ytnlghcpidlpfkaa
open Go.RowKit

theorem info_clD : (Try.prog.info? 31).map (fun i => (i.zero, i.size, i.bytes)) = some (some (.agg #[.string ⟨#[]⟩, .int .i64 0, .int .i64 0, .int .i64 0, .int .i64 0]), 5, 48) := by kernel_rfl
def GoodC (l : List Cl) : Prop := ∀ x ∈ l, x.good ∧ x.small
theorem cls_set : ∀ (l : List Cl) (j : Nat), j < l.length → GoodC l → ∀ (q : Nat) (z : Value), ((q = 0 ∧ ∃ s : ByteArray, s.size ≤ 1000 ∧ z = .string s) ∨ (1 ≤ q ∧ q ≤ 4 ∧ ∃ x : Int, I64 x ∧ z = .int .i64 x)) → ∃ l' : List Cl, l'.length = l.length ∧ GoodC l' ∧ (cls l).set (j * 5 + q) z = cls l'
  | [], j, h, _, _, _, _ => by simp at h
  | a :: l, 0, h, hg, q, z, hz => by
    have ha := hg a (by simp)
    have hl : GoodC l := fun x hx => hg x (by simp [hx])
    have cons : ∀ b : Cl, b.good ∧ b.small → GoodC (b :: l) := fun b hb x hx => by
      rcases List.mem_cons.1 hx with e | e
      · subst e; exact hb
      · exact hl x e
    obtain ⟨⟨g0, g1, g2, g3, g4⟩, gs⟩ := ha
    rcases hz with ⟨rfl, s, hs, rfl⟩ | ⟨h1, h2, x, hx, rfl⟩
    · exact ⟨⟨s, a.station, a.from_, a.to_, a.quota⟩ :: l, rfl, cons _ ⟨⟨by simp only; omega, g1, g2, g3, g4⟩, by unfold Cl.small; simp only; omega⟩, rfl⟩
    · obtain rfl | rfl | rfl | rfl : q = 1 ∨ q = 2 ∨ q = 3 ∨ q = 4 := by omega
      · exact ⟨⟨a.name, x, a.from_, a.to_, a.quota⟩ :: l, rfl, cons _ ⟨⟨g0, hx, g2, g3, g4⟩, gs⟩, rfl⟩
      · exact ⟨⟨a.name, a.station, x, a.to_, a.quota⟩ :: l, rfl, cons _ ⟨⟨g0, g1, hx, g3, g4⟩, gs⟩, rfl⟩
      · exact ⟨⟨a.name, a.station, a.from_, x, a.quota⟩ :: l, rfl, cons _ ⟨⟨g0, g1, g2, hx, g4⟩, gs⟩, rfl⟩
      · exact ⟨⟨a.name, a.station, a.from_, a.to_, x⟩ :: l, rfl, cons _ ⟨⟨g0, g1, g2, g3, hx⟩, gs⟩, rfl⟩
  | a :: l, j + 1, h, hg, q, z, hz => by
    have ha := hg a (by simp)
    have hl : GoodC l := fun x hx => hg x (by simp [hx])
    obtain ⟨l', e1, e2, e3⟩ := cls_set l j (by simpa using h) hl q z hz
    refine ⟨a :: l', by simp [e1], fun x hx => ?_, ?_⟩
    · rcases List.mem_cons.1 hx with e | e
      · subst e; exact ha
      · exact e2 x e
    · rw [show (j + 1) * 5 + q = j * 5 + q + 1 + 1 + 1 + 1 + 1 by omega]
      show Value.string a.name :: .int .i64 a.station :: .int .i64 a.from_ :: .int .i64 a.to_ :: .int .i64 a.quota :: (cls l).set (j * 5 + q) z = _
      rw [e3]; rfl
theorem goodC_snoc {l : List Cl} {x : Cl} (h : GoodC l) (hx : x.good ∧ x.small) : GoodC (l ++ [x]) := fun y hy => by
  rcases List.mem_append.1 hy with hy | hy
  · exact h y hy
  · rw [List.mem_singleton] at hy; subst hy; exact hx
/-- What a draw of clients leaves. -/
def ClsDrawn (g k q : Nat) (w : World) (e : Ending) (w' : World) : Prop :=
  ∃ (l : List Cl) (A : Option Addr) (d : Nat), e = .returned (.slice A l.length d) ∧ l.length ≤ 31 ∧ GoodC l ∧ Sl w' w.heap.size w'.heap.size 31 5 A l.length d (cls l) ∧ Src g (k + q) w' ∧ Only g (g + 1) w w'

set_option maxHeartbeats 4000000 in
set_option maxRecDepth 100000 in
theorem l24Draw_any (g k : Nat) (w : World) (h : Src g k w) (hk : k ≤ 1000000000) :
    Calls Try.prog 217 #[.pointer (some ⟨g, 0, none⟩)] w fun e w' => ClsDrawn g k 100 w e w' := by
  have hgw := h.lt
  have yn := Blk.new w 9 #[.string ⟨#[98, 97, 110, 107]⟩, .string ⟨#[99, 108, 105, 110, 105, 99]⟩, .string ⟨#[100, 97, 105, 114, 121]⟩, .string ⟨#[108, 97, 98, 45, 50]⟩, .string ⟨#[112, 111, 115, 116]⟩, .string ⟨#[119, 97, 114, 100]⟩]
  have sl0 := Sl.made (w.alloc (.cells #[.string ⟨#[98, 97, 110, 107]⟩, .string ⟨#[99, 108, 105, 110, 105, 99]⟩, .string ⟨#[100, 97, 105, 114, 121]⟩, .string ⟨#[108, 97, 98, 45, 50]⟩, .string ⟨#[112, 111, 115, 116]⟩, .string ⟨#[119, 97, 114, 100]⟩] 9)) 31 5
  rw [show (w.alloc (.cells #[.string ⟨#[98, 97, 110, 107]⟩, .string ⟨#[99, 108, 105, 110, 105, 99]⟩, .string ⟨#[100, 97, 105, 114, 121]⟩, .string ⟨#[108, 97, 98, 45, 50]⟩, .string ⟨#[112, 111, 115, 116]⟩, .string ⟨#[119, 97, 114, 100]⟩] 9)).heap.size = w.heap.size + 1 by simp] at sl0
  have HSL0 := Lib.hid sl0
  clear sl0
  go_enter Try.func217, Try.ntmps217
  go_wp2_with fail
  refine (pick_any g k 7 _ ((h.alloc _).alloc _) (by omega) ⟨by omega, by omega⟩).mono ?_
  rintro e w1 ⟨x1, rfl, hx1, s1, o1⟩
  have hx1a := hx1.lt (by omega)
  have hx1b := hx1.1
  clear hx1 h
  have z1 := o1.size
  simp at z1
  have HO1 := Lib.hid (show Only g (g + 1) w w1 from ((((Only.refl g (g + 1) w).alloc _).alloc _).trans o1))
  have HSL1 := Lib.hid ((HSL0.out.apart o1 (Or.inr (by omega))).wide (lo' := w.heap.size + 1) (by omega) (hi' := w1.heap.size) (by omega))
  have yn1 := (yn.alloc _).only2 o1 (Or.inr (by omega))
  clear o1 yn HSL0
  obtain ⟨N, rfl⟩ := Int.eq_ofNat_of_zero_le hx1b
  go_wp2
  go_loopw [4, 5] (fun o i wr => ∃ (l : List Cl) (A : Option Addr) (d r : Nat), r + l.length = N ∧ i = .int .i64 (r : Int) ∧ o = .slice A l.length d ∧ GoodC l ∧ Sl wr (w.heap.size + 1) wr.heap.size 31 5 A l.length d (cls l) ∧ Src g (k + 2 + 8 * l.length) wr ∧ Only g (g + 1) w wr ∧ Blk wr w.heap.size 9 #[.string ⟨#[98, 97, 110, 107]⟩, .string ⟨#[99, 108, 105, 110, 105, 99]⟩, .string ⟨#[100, 97, 105, 114, 121]⟩, .string ⟨#[108, 97, 98, 45, 50]⟩, .string ⟨#[112, 111, 115, 116]⟩, .string ⟨#[119, 97, 114, 100]⟩] ∧ w.heap.size + 1 ≤ wr.heap.size) (fun _ i _ => (intOf i).toNat)
  case atStart => exact ⟨[], _, _, N, by simp, rfl, rfl, fun x hx => by simp at hx, HSL1.out, s1.more (by simp), HO1.out, yn1, by omega⟩
  case round =>
    obtain ⟨l, A, d, r, hr, rfl, rfl, hgd, hsl, hs, ho, hyn, hzr⟩ := hrel
    have HSL := Lib.hid hsl
    have HS := Lib.hid hs
    have HO := Lib.hid ho
    have HR := Lib.hid hr
    have HG := Lib.hid hgd
    have HY := Lib.hid hyn
    have hll : l.length ≤ 6 := by omega
    clear hsl hs ho hr hgd HSL1 HO1 s1 yn1 hyn
    rcases Nat.eq_zero_or_pos r with h0 | h0
    · obtain rfl := h0
      go_wp2
      go_ret
      exact ⟨l, A, d, rfl, by omega, HG.out, HSL.out.wide (by omega) (Nat.le_refl _), HS.out.more (by omega), HO.out⟩
    · obtain ⟨q, rfl⟩ : ∃ q, r = q + 1 := ⟨r - 1, by omega⟩
      clear h0
      have hq1 : q ≤ 6 := by have := HR.out; omega
      have hl5 : l.length ≤ 5 := by have := HR.out; omega
      have hlI : (l.length : Int) < 6 := by omega
      obtain ⟨nm, hnm, hns⟩ : ∃ nm : ByteArray, wr.cell? ⟨w.heap.size, l.length, none⟩ = some (.string nm) ∧ nm.size ≤ 12 := by
        have hc := HY.out.cell l.length
        generalize l.length = L at *
        obtain rfl | rfl | rfl | rfl | rfl | rfl : L = 0 ∨ L = 1 ∨ L = 2 ∨ L = 3 ∨ L = 4 ∨ L = 5 := by omega
        all_goals exact ⟨_, hc.trans rfl, by decide⟩
      go_wp2_with fail
      refine (l24New_any g _ nm _ HS.out (by omega) (by omega)).mono ?_
      rintro e w5 ⟨x, rfl, hgx, hsx, s5, o5⟩
      have z5 := o5.size
      have HO5 := Lib.hid (HO.out.trans o5)
      have HSL5 := Lib.hid ((HSL.out.apart o5 (Or.inr (by omega))).wide (Nat.le_refl _) (hi' := w5.heap.size) (by omega))
      have HY5 := Lib.hid (HY.out.only2 o5 (Or.inr (by omega)))
      clear o5 hnm
      go_wp2_with (at_builtin; refine wpList_oneF rfl _ _ 27 rfl 31 _ 5 48 Try.underlying27 info_clD rfl (by decide) (by decide) HSL5.out (by omega) rfl (cellsCl x) _ rfl rfl rfl (cl_one2 _) (by omega) ?_; intro A10 d10 w10 sl10 b10 z10 f10 g10; have HSL10 := Lib.hid sl10; have HB10 := Lib.hid b10; clear sl10 b10 f10 g10)
      go_roundw
      case rel => exact ⟨l ++ [x], A10, d10, q, by have := HR.out; simp; omega, by go_num, by simp, goodC_snoc HG.out ⟨hgx, hsx⟩, by have := HSL10.out; rw [cls_snoc2] at this; simpa using this, (s5.below HB10.out (by omega)).more (by simp; omega), HO5.out.then HB10.out (by omega), HY5.out.below HB10.out (by omega), by omega⟩
      case measure => simp [intOf]


/-- What spoiling leaves: at most one cell of the client turned. -/
def SpoiltC (g k b o : Nat) (w : World) (w' : World) : Prop :=
  ∃ w1, Src g (k + 4) w1 ∧ Only g (g + 1) w w1 ∧ (w' = w1 ∨ ∃ (q : Nat) (z : Value), ((q = 0 ∧ ∃ s : ByteArray, s.size ≤ 1000 ∧ z = .string s) ∨ (1 ≤ q ∧ q ≤ 4 ∧ ∃ x : Int, I64 x ∧ z = .int .i64 x)) ∧ w' = w1.setCell ⟨b, o + q, none⟩ z)
theorem txt3_small {t : ByteArray} (h : t ∈ ([⟨#[]⟩, ⟨#[66, 97, 110, 107]⟩, ⟨#[122, 111, 111]⟩] : List ByteArray)) : t.size ≤ 1000 := by
  simp only [List.mem_cons, List.not_mem_nil, or_false] at h
  rcases h with h | h | h <;> subst h <;> decide
set_option maxHeartbeats 4000000 in
set_option maxRecDepth 100000 in
theorem l24Spoil_any (g k b o : Nat) (nm : ByteArray) (a fr tt qu : Int) (w : World) (h : Src g k w) (hk : k ≤ 10000000000) (hgb : g < b) (hb : b < w.heap.size) (hfr : I64 fr)
    (c0 : w.cell? ⟨b, o, none⟩ = some (.string nm)) (c1 : w.cell? ⟨b, o + 1, none⟩ = some (.int .i64 a)) (c2 : w.cell? ⟨b, o + 2, none⟩ = some (.int .i64 fr)) (c3 : w.cell? ⟨b, o + 3, none⟩ = some (.int .i64 tt)) (c4 : w.cell? ⟨b, o + 4, none⟩ = some (.int .i64 qu)) (f0 : w.frozen? ⟨b, o, none⟩ = false) (f1 : w.frozen? ⟨b, o + 1, none⟩ = false) (f2 : w.frozen? ⟨b, o + 2, none⟩ = false) (f3 : w.frozen? ⟨b, o + 3, none⟩ = false) (f4 : w.frozen? ⟨b, o + 4, none⟩ = false) :
    Calls Try.prog 219 #[.pointer (some ⟨g, 0, none⟩), .pointer (some ⟨b, o, none⟩)] w fun e w' => e = .returned (.tuple #[]) ∧ SpoiltC g k b o w w' := by
  have C0 := Lib.hid c0
  have F0 := Lib.hid f0
  have C1 := Lib.hid c1
  have F1 := Lib.hid f1
  have C2 := Lib.hid c2
  have F2 := Lib.hid f2
  have C3 := Lib.hid c3
  have F3 := Lib.hid f3
  have C4 := Lib.hid c4
  have F4 := Lib.hid f4
  clear c0 c1 c2 c3 c4 f0 f1 f2 f3 f4
  go_enter Try.func219, Try.ntmps219
  go_wp2_with fail
  refine (pick_any g k 5 _ h (by omega) ⟨by omega, by omega⟩).mono ?_
  rintro e w1 ⟨x1, rfl, hx1, s1, o1⟩
  have hx1a := hx1.lt (by omega)
  have hx1b := hx1.1
  clear hx1 h
  have z1 := o1.size
  have bq := o1.block b hb (by omega)
  have c10 := (World.cell?_of_block (a := ⟨b, o, none⟩) bq).trans C0.out
  have f10 := (World.frozen?_of_block (a := ⟨b, o, none⟩) bq).trans F0.out
  have c11 := (World.cell?_of_block (a := ⟨b, o + 1, none⟩) bq).trans C1.out
  have f11 := (World.frozen?_of_block (a := ⟨b, o + 1, none⟩) bq).trans F1.out
  have c12 := (World.cell?_of_block (a := ⟨b, o + 2, none⟩) bq).trans C2.out
  have f12 := (World.frozen?_of_block (a := ⟨b, o + 2, none⟩) bq).trans F2.out
  have c13 := (World.cell?_of_block (a := ⟨b, o + 3, none⟩) bq).trans C3.out
  have f13 := (World.frozen?_of_block (a := ⟨b, o + 3, none⟩) bq).trans F3.out
  have c14 := (World.cell?_of_block (a := ⟨b, o + 4, none⟩) bq).trans C4.out
  have f14 := (World.frozen?_of_block (a := ⟨b, o + 4, none⟩) bq).trans F4.out
  have HO1 := Lib.hid o1
  clear o1 bq
  by_cases h0 : x1 = 0
  · subst h0
    go_wp2_with fail
    refine (text_any g _ w1.heap.size 3 9 [⟨#[]⟩, ⟨#[66, 97, 110, 107]⟩, ⟨#[122, 111, 111]⟩] _ (s1.alloc _) (by omega) (Blk.new w1 _ _) rfl (by omega) (by omega) (by omega)).mono ?_
    rintro e w2 ⟨z, rfl, hz, s2, o2⟩
    have hzi := txt3_small hz
    clear hz
    have z2 := o2.size
    simp at z2
    have bk : (w1.alloc (.cells #[.string ⟨#[]⟩, .string ⟨#[66, 97, 110, 107]⟩, .string ⟨#[122, 111, 111]⟩] 9)).heap[b]? = w1.heap[b]? := Below.heap_alloc w1 _ b (by omega)
    have bk2 := o2.block b (by simp; omega) (by omega)
    have c2 := (World.cell?_of_block (a := ⟨b, o, none⟩) (bk2.trans bk)).trans c10
    have f2 := (World.frozen?_of_block (a := ⟨b, o, none⟩) (bk2.trans bk)).trans f10
    have HO := Lib.hid ((HO1.out.alloc (.cells #[.string ⟨#[]⟩, .string ⟨#[66, 97, 110, 107]⟩, .string ⟨#[122, 111, 111]⟩] 9)).trans o2)
    clear bk bk2 o2
    go_wp2
    go_end0
    exact ⟨rfl, w2, s2.more (by omega), HO.out, .inr ⟨0, .string z, .inl ⟨rfl, z, hzi, rfl⟩, rfl⟩⟩
  by_cases h1 : x1 = 1
  · subst h1
    go_wp2_with fail
    refine (among_any g _ w1.heap.size 4 2 [-1, 0, 9, 10] _ (s1.alloc _) (by omega) (Blk.new w1 _ _) rfl (by omega) (by omega) (by omega)).mono ?_
    rintro e w2 ⟨z, rfl, hz, s2, o2⟩
    have hzi := show I64 z by simp only [List.mem_cons, List.not_mem_nil, or_false] at hz; unfold I64 at *; omega
    clear hz
    have z2 := o2.size
    simp at z2
    have bk : (w1.alloc (.cells #[.int .i64 (-1), .int .i64 (0), .int .i64 (9), .int .i64 (10)] 2)).heap[b]? = w1.heap[b]? := Below.heap_alloc w1 _ b (by omega)
    have bk2 := o2.block b (by simp; omega) (by omega)
    have c2 := (World.cell?_of_block (a := ⟨b, o + 1, none⟩) (bk2.trans bk)).trans c11
    have f2 := (World.frozen?_of_block (a := ⟨b, o + 1, none⟩) (bk2.trans bk)).trans f11
    have HO := Lib.hid ((HO1.out.alloc (.cells #[.int .i64 (-1), .int .i64 (0), .int .i64 (9), .int .i64 (10)] 2)).trans o2)
    clear bk bk2 o2
    go_wp2
    go_end0
    exact ⟨rfl, w2, s2.more (by omega), HO.out, .inr ⟨1, .int .i64 z, .inr ⟨by omega, by omega, z, hzi, rfl⟩, rfl⟩⟩
  by_cases h2 : x1 = 2
  · subst h2
    go_wp2_with fail
    refine (among_any g _ w1.heap.size 5 2 [-1, 0, 20000, 20001, -9223372036854775808] _ (s1.alloc _) (by omega) (Blk.new w1 _ _) rfl (by omega) (by omega) (by omega)).mono ?_
    rintro e w2 ⟨z, rfl, hz, s2, o2⟩
    have hzi := show I64 z by simp only [List.mem_cons, List.not_mem_nil, or_false] at hz; unfold I64 at *; omega
    clear hz
    have z2 := o2.size
    simp at z2
    have bk : (w1.alloc (.cells #[.int .i64 (-1), .int .i64 (0), .int .i64 (20000), .int .i64 (20001), .int .i64 (-9223372036854775808)] 2)).heap[b]? = w1.heap[b]? := Below.heap_alloc w1 _ b (by omega)
    have bk2 := o2.block b (by simp; omega) (by omega)
    have c2 := (World.cell?_of_block (a := ⟨b, o + 2, none⟩) (bk2.trans bk)).trans c12
    have f2 := (World.frozen?_of_block (a := ⟨b, o + 2, none⟩) (bk2.trans bk)).trans f12
    have HO := Lib.hid ((HO1.out.alloc (.cells #[.int .i64 (-1), .int .i64 (0), .int .i64 (20000), .int .i64 (20001), .int .i64 (-9223372036854775808)] 2)).trans o2)
    clear bk bk2 o2
    go_wp2
    go_end0
    exact ⟨rfl, w2, s2.more (by omega), HO.out, .inr ⟨2, .int .i64 z, .inr ⟨by omega, by omega, z, hzi, rfl⟩, rfl⟩⟩
  by_cases h3 : x1 = 3
  · subst h3
    go_wp2_with fail
    refine (among_any g _ w1.heap.size 4 2 [-1, fr, 20000, 20001] _ (s1.alloc _) (by omega) (Blk.new w1 _ _) rfl (by omega) (by omega) (by omega)).mono ?_
    rintro e w2 ⟨z, rfl, hz, s2, o2⟩
    have hzi := show I64 z by simp only [List.mem_cons, List.not_mem_nil, or_false] at hz; unfold I64 at *; omega
    clear hz
    have z2 := o2.size
    simp at z2
    have bk : (w1.alloc (.cells #[.int .i64 (-1), .int .i64 (fr), .int .i64 (20000), .int .i64 (20001)] 2)).heap[b]? = w1.heap[b]? := Below.heap_alloc w1 _ b (by omega)
    have bk2 := o2.block b (by simp; omega) (by omega)
    have c2 := (World.cell?_of_block (a := ⟨b, o + 3, none⟩) (bk2.trans bk)).trans c13
    have f2 := (World.frozen?_of_block (a := ⟨b, o + 3, none⟩) (bk2.trans bk)).trans f13
    have HO := Lib.hid ((HO1.out.alloc (.cells #[.int .i64 (-1), .int .i64 (fr), .int .i64 (20000), .int .i64 (20001)] 2)).trans o2)
    clear bk bk2 o2
    go_wp2
    go_end0
    exact ⟨rfl, w2, s2.more (by omega), HO.out, .inr ⟨3, .int .i64 z, .inr ⟨by omega, by omega, z, hzi, rfl⟩, rfl⟩⟩
  by_cases h4 : x1 = 4
  · subst h4
    go_wp2_with fail
    refine (among_any g _ w1.heap.size 4 2 [-1, 0, 1000, 1001] _ (s1.alloc _) (by omega) (Blk.new w1 _ _) rfl (by omega) (by omega) (by omega)).mono ?_
    rintro e w2 ⟨z, rfl, hz, s2, o2⟩
    have hzi := show I64 z by simp only [List.mem_cons, List.not_mem_nil, or_false] at hz; unfold I64 at *; omega
    clear hz
    have z2 := o2.size
    simp at z2
    have bk : (w1.alloc (.cells #[.int .i64 (-1), .int .i64 (0), .int .i64 (1000), .int .i64 (1001)] 2)).heap[b]? = w1.heap[b]? := Below.heap_alloc w1 _ b (by omega)
    have bk2 := o2.block b (by simp; omega) (by omega)
    have c2 := (World.cell?_of_block (a := ⟨b, o + 4, none⟩) (bk2.trans bk)).trans c14
    have f2 := (World.frozen?_of_block (a := ⟨b, o + 4, none⟩) (bk2.trans bk)).trans f14
    have HO := Lib.hid ((HO1.out.alloc (.cells #[.int .i64 (-1), .int .i64 (0), .int .i64 (1000), .int .i64 (1001)] 2)).trans o2)
    clear bk bk2 o2
    go_wp2
    go_end0
    exact ⟨rfl, w2, s2.more (by omega), HO.out, .inr ⟨4, .int .i64 z, .inr ⟨by omega, by omega, z, hzi, rfl⟩, rfl⟩⟩
  · exfalso; omega
end Go.Proofs.Ytnlghcpidlpfkaa
