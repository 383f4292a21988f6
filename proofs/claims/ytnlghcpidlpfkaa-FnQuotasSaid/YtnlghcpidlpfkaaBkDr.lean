/- Bookings that are drawn. -/
import Derived.Test.YtnlghcpidlpfkaaDrw
import Derived.Test.YtnlghcpidlpfkaaSBk
import Derived.Test.YtnlghcpidlpfkaaOneF
import Derived.Test.YtnlghcpidlpfkaaMax
import Derived.Deep.DeepCutAuto
set_option linter.unusedVariables false
set_option linter.unusedSimpArgs false
namespace Go.Proofs.Ytnlghcpidlpfkaa
open Go.RowKit

theorem Blk.only3 {lo hi g : Nat} {t : TypeId} {cs : Array Value} {w w' : World} (h : Blk w g t cs) (ho : Only lo hi w w') (hd : g < lo ∨ hi ≤ g) : Blk w' g t cs := (ho.block g h.lt hd).trans h
theorem Blk.cast3 {g : Nat} {t : TypeId} {cs cs' : Array Value} {w : World} (h : Blk w g t cs) (e : cs = cs') : Blk w g t cs' := e ▸ h
theorem info_bkD : (Try.prog.info? 45).map (fun i => (i.zero, i.size, i.bytes)) = some (some (.agg #[.int .i64 0, .string ⟨#[]⟩, .int .i64 0]), 3, 32) := by kernel_rfl
theorem bks_snocD (l : List Bk) (x : Bk) : bks l ++ cellsBk x = bks (l ++ [x]) := by simp [bks]
theorem bk_oneD (x : Bk) : ∀ u ∈ cellsBk x, u.oneCell' = true := by
  intro u hu
  simp only [cellsBk, List.mem_cons, List.not_mem_nil, or_false] at hu
  rcases hu with h | h | h <;> subst h <;> rfl
theorem texts_small {t : ByteArray} : (t ∈ ([⟨#[98, 97, 110, 107]⟩, ⟨#[119, 97, 114, 100]⟩, ⟨#[108, 97, 98, 45, 50]⟩] : List ByteArray) → t.size ≤ 12) ∧ (t ∈ ([⟨#[]⟩, ⟨#[66, 97, 110, 107]⟩, ⟨#[98, 97, 110, 107]⟩] : List ByteArray) → t.size ≤ 12) ∧ (t ∈ ([⟨#[98, 97, 110, 107]⟩, ⟨#[98, 97, 110, 107]⟩, ⟨#[119, 97, 114, 100]⟩, ⟨#[108, 97, 98, 45, 50]⟩, ⟨#[110, 111, 110, 101]⟩, ⟨#[]⟩, ⟨#[66, 97, 110, 107]⟩] : List ByteArray) → t.size ≤ 12) := by
  refine ⟨fun h => ?_, fun h => ?_, fun h => ?_⟩
  · simp only [List.mem_cons, List.not_mem_nil, or_false] at h
    rcases h with h | h | h <;> subst h <;> decide
  · simp only [List.mem_cons, List.not_mem_nil, or_false] at h
    rcases h with h | h | h <;> subst h <;> decide
  · simp only [List.mem_cons, List.not_mem_nil, or_false] at h
    rcases h with h | h | h | h | h | h | h <;> subst h <;> decide
def GoodB (l : List Bk) : Prop := ∀ x ∈ l, x.good ∧ x.small
theorem good_bk {d a : Int} {t : ByteArray} (hd : I64 d) (ha : I64 a) (ht : t.size ≤ 12) : (⟨d, t, a⟩ : Bk).good ∧ (⟨d, t, a⟩ : Bk).small := ⟨⟨hd, by simp only; omega, ha⟩, by unfold Bk.small; simp only; omega⟩
theorem bks_set : ∀ (l : List Bk) (j : Nat), j < l.length → GoodB l → (∀ z, I64 z → ∃ l' : List Bk, l'.length = l.length ∧ GoodB l' ∧ (bks l).set (j * 3) (.int .i64 z) = bks l') ∧ (∀ s : ByteArray, s.size ≤ 12 → ∃ l' : List Bk, l'.length = l.length ∧ GoodB l' ∧ (bks l).set (j * 3 + 1) (.string s) = bks l') ∧ (∀ z, I64 z → ∃ l' : List Bk, l'.length = l.length ∧ GoodB l' ∧ (bks l).set (j * 3 + 2) (.int .i64 z) = bks l')
  | [], j, h, _ => by simp at h
  | a :: l, 0, h, hg => by
    have ha := hg a (by simp)
    have hl : GoodB l := fun x hx => hg x (by simp [hx])
    have cons : ∀ b : Bk, b.good ∧ b.small → GoodB (b :: l) := fun b hb x hx => by
      rcases List.mem_cons.1 hx with e | e
      · subst e; exact hb
      · exact hl x e
    refine ⟨fun z hz => ⟨⟨z, a.client, a.amount⟩ :: l, rfl, cons _ ⟨⟨hz, ha.1.2.1, ha.1.2.2⟩, ha.2⟩, rfl⟩, fun s hs => ⟨⟨a.day, s, a.amount⟩ :: l, rfl, cons _ ⟨⟨ha.1.1, by simp only; omega, ha.1.2.2⟩, by unfold Bk.small; simp only; omega⟩, rfl⟩, fun z hz => ⟨⟨a.day, a.client, z⟩ :: l, rfl, cons _ ⟨⟨ha.1.1, ha.1.2.1, hz⟩, ha.2⟩, rfl⟩⟩
  | a :: l, j + 1, h, hg => by
    have ha := hg a (by simp)
    have hl : GoodB l := fun x hx => hg x (by simp [hx])
    have cons : ∀ l', GoodB l' → GoodB (a :: l') := fun l' hl' x hx => by
      rcases List.mem_cons.1 hx with e | e
      · subst e; exact ha
      · exact hl' x e
    obtain ⟨h1, h2, h3⟩ := bks_set l j (by simpa using h) hl
    refine ⟨fun z hz => ?_, fun s hs => ?_, fun z hz => ?_⟩
    · obtain ⟨l', e1, e2, e3⟩ := h1 z hz
      refine ⟨a :: l', by simp [e1], cons _ e2, ?_⟩
      rw [show (j + 1) * 3 = j * 3 + 1 + 1 + 1 by omega]
      show Value.int .i64 a.day :: .string a.client :: .int .i64 a.amount :: (bks l).set (j * 3) (.int .i64 z) = _
      rw [e3]; rfl
    · obtain ⟨l', e1, e2, e3⟩ := h2 s hs
      refine ⟨a :: l', by simp [e1], cons _ e2, ?_⟩
      rw [show (j + 1) * 3 + 1 = j * 3 + 1 + 1 + 1 + 1 by omega]
      show Value.int .i64 a.day :: .string a.client :: .int .i64 a.amount :: (bks l).set (j * 3 + 1) (.string s) = _
      rw [e3]; rfl
    · obtain ⟨l', e1, e2, e3⟩ := h3 z hz
      refine ⟨a :: l', by simp [e1], cons _ e2, ?_⟩
      rw [show (j + 1) * 3 + 2 = j * 3 + 2 + 1 + 1 + 1 by omega]
      show Value.int .i64 a.day :: .string a.client :: .int .i64 a.amount :: (bks l).set (j * 3 + 2) (.int .i64 z) = _
      rw [e3]; rfl
/-- What a draw of bookings leaves. -/
def BkDrawn (g k q : Nat) (w : World) (e : Ending) (w' : World) : Prop :=
  ∃ (l : List Bk) (A : Option Addr) (d : Nat), e = .returned (.slice A l.length d) ∧ l.length ≤ 81 ∧ GoodB l ∧ Sl w' w.heap.size w'.heap.size 45 3 A l.length d (bks l) ∧ Src g (k + q) w' ∧ Only g (g + 1) w w'

set_option maxHeartbeats 4000000 in
set_option maxRecDepth 100000 in
theorem l25Draw_any (g k : Nat) (w : World) (h : Src g k w) (hk : k ≤ 10000000000) :
    Calls Try.prog 223 #[.pointer (some ⟨g, 0, none⟩)] w fun e w' => BkDrawn g k 1000 w e w' := by
  have hgw := h.lt
  have HSL0 := Lib.hid (Sl.made w 45 3)
  go_enter Try.func223, Try.ntmps223
  go_wp2_with fail
  refine (pick_any g k 12 _ (h.alloc _) (by omega) ⟨by omega, by omega⟩).mono ?_
  rintro e w1 ⟨x1, rfl, hx1, s1, o1⟩
  have hx1a := hx1.lt (by omega)
  have hx1b := hx1.1
  clear hx1 h
  have z1 := o1.size
  simp at z1
  have HO1 := Lib.hid (show Only g (g + 1) w w1 from (((Only.refl g (g + 1) w).alloc _).trans o1))
  have HSL1 := Lib.hid (HSL0.out.apart o1 (Or.inr (by omega)))
  clear o1
  obtain ⟨N1, rfl⟩ := Int.eq_ofNat_of_zero_le hx1b
  go_wp2_with fail
  refine (one_any g _ 24 _ s1 (by omega) ⟨by omega, by omega⟩).mono ?_
  rintro e w2 ⟨b2, rfl, s2, o2⟩
  have z2 := o2.size
  have HO2 := Lib.hid (HO1.out.trans o2)
  have HSL2 := Lib.hid (HSL1.out.apart o2 (Or.inr (by omega)))
  clear o2 s1
  go_upto_if 12 with fail
  go_cut [5] (fun s5 wx => ∃ N : Nat, N ≤ 81 ∧ s5 = .int .i64 (N : Int) ∧ Src g (k + 6) wx ∧ Only g (g + 1) w wx ∧ Sl wx w.heap.size (w.heap.size + 1) 45 3 (some ⟨w.heap.size, 0, none⟩) 0 0 [] ∧ w.heap.size < wx.heap.size)
  case first =>
    rcases b2 with _ | _
    · go_wp2_with fail
      go_meet
      exact ⟨N1, by omega, rfl, s2.more (by omega), HO2.out, HSL2.out, by omega⟩
    · go_wp2_with fail
      refine (pick_any g _ 2 _ s2 (by omega) ⟨by omega, by omega⟩).mono ?_
      rintro e w3 ⟨x3, rfl, hx3, s3, o3⟩
      have hx3a := hx3.lt (by omega)
      have hx3b := hx3.1
      clear hx3
      have z3 := o3.size
      have HO3 := Lib.hid (HO2.out.trans o3)
      have HSL3 := Lib.hid (HSL2.out.apart o3 (Or.inr (by omega)))
      clear o3 s2
      obtain ⟨N3, rfl⟩ := Int.eq_ofNat_of_zero_le hx3b
      go_wp2_with fail
      go_meet
      exact ⟨80 + N3, by omega, by simp, s3.more (by omega), HO3.out, HSL3.out, by omega⟩
  case rest =>
    obtain ⟨N, hN, rfl, s4, o4, sl4, z4⟩ := hcut
    have HO4 := Lib.hid o4
    have HSL4 := Lib.hid (sl4.wide (Nat.le_refl _) (hi' := wc.heap.size) (by omega))
    clear o4 sl4 HSL0 HSL1 HSL2 HO1 HO2
    go_wp2
    go_loopw [3, 4, 6] (fun o dy i wr => ∃ (l : List Bk) (A : Option Addr) (d r : Nat) (D : Int), r + l.length = N ∧ i = .int .i64 (r : Int) ∧ dy = .int .i64 D ∧ 0 ≤ D ∧ D ≤ 10 * (l.length : Int) ∧ o = .slice A l.length d ∧ GoodB l ∧ Sl wr w.heap.size wr.heap.size 45 3 A l.length d (bks l) ∧ Src g (k + 6 + 10 * l.length) wr ∧ Only g (g + 1) w wr) (fun _ _ i _ => (intOf i).toNat)
    case atStart => exact ⟨[], _, _, N, 0, by simp, rfl, rfl, by omega, by simp, rfl, fun x hx => by simp at hx, HSL4.out, s4.more (by simp), HO4.out⟩
    case round =>
      obtain ⟨l, A, d, r, D, hr, rfl, rfl, hD0, hD1, rfl, hgd, hsl, hs, ho⟩ := hrel
      have HSL := Lib.hid hsl
      have HS := Lib.hid hs
      have HO := Lib.hid ho
      have HR := Lib.hid hr
      have HG := Lib.hid hgd
      have hll : l.length ≤ 81 := by omega
      have zr := ho.size
      clear hsl hs ho hr hgd HSL4 HO4 s4
      rcases Nat.eq_zero_or_pos r with h0 | h0
      · obtain rfl := h0
        go_wp2
        go_ret
        exact ⟨l, A, d, rfl, hll, HG.out, HSL.out, HS.out.more (by omega), HO.out⟩
      · obtain ⟨q, rfl⟩ : ∃ q, r = q + 1 := ⟨r - 1, by omega⟩
        clear h0
        have hq1 : q ≤ 81 := by have := HR.out; omega
        go_wp2_with fail
        refine (pick_any g _ 9 _ HS.out (by omega) ⟨by omega, by omega⟩).mono ?_
        rintro e w5 ⟨x5, rfl, hx5, s5, o5⟩
        have hx5a := hx5.lt (by omega)
        have hx5b := hx5.1
        clear hx5
        have z5 := o5.size
        have HO5 := Lib.hid ((HO.out.trans o5).alloc (.cells #[.string ⟨#[98, 97, 110, 107]⟩, .string ⟨#[119, 97, 114, 100]⟩, .string ⟨#[108, 97, 98, 45, 50]⟩] 9))
        have HSL5 := Lib.hid ((HSL.out.apart o5 (Or.inr (by omega))).up (.cells #[.string ⟨#[98, 97, 110, 107]⟩, .string ⟨#[119, 97, 114, 100]⟩, .string ⟨#[108, 97, 98, 45, 50]⟩] 9))
        clear o5
        go_wp2_with fail
        refine (text_any g _ w5.heap.size 3 9 [⟨#[98, 97, 110, 107]⟩, ⟨#[119, 97, 114, 100]⟩, ⟨#[108, 97, 98, 45, 50]⟩] _ (s5.alloc _) (by omega) (Blk.new w5 _ _) rfl (by omega) (by omega) (by omega)).mono ?_
        rintro e w6 ⟨t6, rfl, ht6, s6, o6⟩
        have hts := texts_small.1 ht6
        clear ht6
        have z6 := o6.size
        simp at z6
        have yv := Blk.new w6 45 #[.int .i64 (D + x5), .string t6, .int .i64 0]
        have HOv := Lib.hid ((HO5.out.trans o6).alloc (.cells #[.int .i64 (D + x5), .string t6, .int .i64 0] 45))
        have HSLv := Lib.hid ((HSL5.out.apart o6 (Or.inr (by omega))).up (.cells #[.int .i64 (D + x5), .string t6, .int .i64 0] 45))
        clear o6
        go_wp2_with fail
        refine (pick_any g _ 40 _ (s6.alloc _) (by omega) ⟨by omega, by omega⟩).mono ?_
        rintro e w7 ⟨x7, rfl, hx7, s7, o7⟩
        have hx7a := hx7.lt (by omega)
        have hx7b := hx7.1
        clear hx7 s6
        have z7 := o7.size
        simp at z7
        have y7 := yv.only3 o7 (Or.inr (by omega))
        have HO7 := Lib.hid ((HOv.out.trans o7).far (p := ⟨w6.heap.size, 2, none⟩) (by simp; omega) (.int .i64 (10 * (1 + x7))))
        have HSL7 := Lib.hid ((HSLv.out.apart o7 (Or.inr (by omega))).farSet (p := ⟨w6.heap.size, 2, none⟩) (by simp; omega) (.int .i64 (10 * (1 + x7))))
        have c72 := y7.cellAt 2 (by simp)
        have f72 := y7.frozen 2
        simp only [List.getElem_toArray, List.getElem_cons_zero, List.getElem_cons_succ] at c72
        have y7s := (y7.set_ 2 (.int .i64 (10 * (1 + x7)))).cast3 (cs' := #[.int .i64 (D + x5), .string t6, .int .i64 (10 * (1 + x7))]) rfl
        clear o7 yv y7
        go_wp2_with fail
        refine (one_any g _ 2 _ (s7.set_ (by simp; omega) _) (by omega) ⟨by omega, by omega⟩).mono ?_
        rintro e w8 ⟨b8, rfl, s8, o8⟩
        have z8 := o8.size
        simp [World.setCell] at z8
        have y8 := y7s.only3 o8 (Or.inr (by omega))
        have HO8 := Lib.hid (HO7.out.trans o8)
        have HSL8 := Lib.hid (HSL7.out.apart o8 (Or.inr (by omega)))
        clear o8 y7s s7 c72 f72
        go_upto_if 36 with fail
        go_cut [] (fun wx => ∃ am : Int, I64 am ∧ Blk wx w6.heap.size 45 #[.int .i64 (D + x5), .string t6, .int .i64 am] ∧ Src g (k + 6 + 10 * l.length + 8) wx ∧ Only g (g + 1) w wx ∧ Sl wx w.heap.size wr.heap.size 45 3 A l.length d (bks l) ∧ w8.heap.size ≤ wx.heap.size)
        case first =>
          have c82 := y8.cellAt 2 (by simp)
          have f82 := y8.frozen 2
          simp only [List.getElem_toArray, List.getElem_cons_zero, List.getElem_cons_succ] at c82
          rcases b8 with _ | _
          · go_wp2_with fail
            go_meet
            exact ⟨_, ⟨by omega, by omega⟩, y8, s8.more (by omega), HO8.out, HSL8.out, Nat.le_refl _⟩
          · have y8s := (y8.set_ 2 (.int .i64 (-(10 * (1 + x7))))).cast3 (cs' := #[.int .i64 (D + x5), .string t6, .int .i64 (-(10 * (1 + x7)))]) rfl
            go_wp2_with fail
            go_meet
            exact ⟨_, ⟨by omega, by omega⟩, y8s, (s8.set_ (by simp; omega) _).more (by omega), HO8.out.far (by simp; omega) _, HSL8.out.farSet (by simp; omega) _, by simp [World.setCell]⟩
        case rest =>
          obtain ⟨am, ham, y9, s9, o9, sl9, z9⟩ := hcut
          have d0 := y9.cellAt 0 (by simp)
          have d1 := y9.cellAt 1 (by simp)
          have d2 := y9.cellAt 2 (by simp)
          simp only [List.getElem_toArray, List.getElem_cons_zero, List.getElem_cons_succ] at d0 d1 d2
          have HO9 := Lib.hid o9
          have HSL9 := Lib.hid sl9
          clear y9 y8 o9 sl9 s8
          go_wp2_with (at_builtin; refine wpList_oneF rfl _ _ 41 rfl 45 _ 3 32 Try.underlying41 info_bkD rfl (by decide) (by decide) HSL9.out (by omega) rfl (cellsBk ⟨D + x5, t6, am⟩) _ rfl rfl rfl (bk_oneD _) (by omega) ?_; intro A10 d10 w10 sl10 b10 z10 f10 g10; have HSL10 := Lib.hid sl10; have HB10 := Lib.hid b10; clear sl10 b10 f10 g10)
          go_roundw
          case rel => exact ⟨l ++ [⟨D + x5, t6, am⟩], A10, d10, q, D + x5, by have := HR.out; simp; omega, by go_num, rfl, by omega, by simp; omega, by simp, fun x hx => by
              rcases List.mem_append.1 hx with hx | hx
              · exact HG.out x hx
              · rw [List.mem_singleton] at hx; subst hx; exact good_bk ⟨by omega, by omega⟩ ham hts, by have := HSL10.out; rw [bks_snocD] at this; simpa using this, (s9.below HB10.out (by omega)).more (by simp; omega), HO9.out.then HB10.out (by omega)⟩
          case measure => simp [intOf]

end Go.Proofs.Ytnlghcpidlpfkaa
