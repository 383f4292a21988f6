/- Clients, now and then spoilt; what the laws' draws of clients give. -/
import Derived.Test.YtnlghcpidlpfkaaClDs
import Derived.Test.YtnlghcpidlpfkaaBkDt
set_option linter.unusedVariables false
set_option linter.unusedSimpArgs false
namespace Go.Proofs.Ytnlghcpidlpfkaa
open Go.RowKit

theorem conv_two (a b : Int) (w : World) : (convert 87 9 (.slice (some ⟨w.heap.size, 0, none⟩) 2 2)).run Try.prog (w.alloc (.cells #[.int .u8 a, .int .u8 b] 5)) = .ok (.string (strOfNums [a, b])) (w.alloc (.cells #[.int .u8 a, .int .u8 b] 5)) := by
  have hc : ∀ i : Nat, i < 2 → (w.alloc (.cells #[.int .u8 a, .int .u8 b] 5)).cell? ⟨w.heap.size, 0 + i, none⟩ = some (.int .u8 (([a, b] : List Int).getD i 0)) := by
    intro i hi
    rw [World.cell?_alloc_at _ _ _ _ rfl]
    obtain rfl | rfl : i = 0 ∨ i = 1 := by omega
    · rfl
    · rfl
  rw [run_convert_bytes_arg (P := Try.prog) (w.alloc (.cells #[.int .u8 a, .int .u8 b] 5)) 87 5 Try.underlying87 Try.underlying5 w.heap.size 0 2 2 [a, b] rfl hc 9 Try.underlying9]
set_option maxHeartbeats 4000000 in
set_option maxRecDepth 100000 in
theorem l24Bent_any (g k : Nat) (w : World) (h : Src g k w) (hk : k ≤ 100000000) :
    Calls Try.prog 170 #[.pointer (some ⟨g, 0, none⟩)] w fun e w' => ClsDrawn g k 500 w e w' := by
  have hgw := h.lt
  go_enter Try.func170, Try.ntmps170
  go_wp2_with fail
  refine (l24Draw_any g k _ h (by omega)).mono ?_
  rintro e w1 ⟨l1, A1, d1, rfl, hl1, hgd1, sl1, s1, o1⟩
  have z1 := o1.size
  have HO1 := Lib.hid o1
  have HSL1 := Lib.hid sl1
  have HG1 := Lib.hid hgd1
  clear o1 sl1 hgd1 h
  go_wp2_with fail
  refine (one_any g _ 24 _ s1 (by omega) ⟨by omega, by omega⟩).mono ?_
  rintro e w2 ⟨b2, rfl, s2, o2⟩
  have z2 := o2.size
  have HO2 := Lib.hid (HO1.out.trans o2)
  have HSL2 := Lib.hid ((HSL1.out.apart o2 (Or.inr (by omega))).wide (Nat.le_refl _) (hi' := w2.heap.size) (by omega))
  clear o2 s1 HO1 HSL1
  go_upto_if 9 with fail
  go_cut [3] (fun s3 wx => ∃ (l : List Cl) (A : Option Addr) (d : Nat), s3 = .slice A l.length d ∧ l.length ≤ 31 ∧ GoodC l ∧ Sl wx w.heap.size wx.heap.size 31 5 A l.length d (cls l) ∧ Src g (k + 400) wx ∧ Only g (g + 1) w wx ∧ w2.heap.size ≤ wx.heap.size)
  case first =>
    rcases b2 with _ | _
    · go_wp2_with fail
      go_meet
      exact ⟨l1, A1, d1, rfl, hl1, HG1.out, HSL2.out, s2.more (by omega), HO2.out, Nat.le_refl _⟩
    · have HSL0 := Lib.hid (Sl.made w2 31 5)
      clear HSL2 HG1
      go_wp2_with fail
      refine (pick_any g _ 2 _ (s2.alloc _) (by omega) ⟨by omega, by omega⟩).mono ?_
      rintro e w3 ⟨x3, rfl, hx3, s3, o3⟩
      have hx3a := hx3.lt (by omega)
      have hx3b := hx3.1
      clear hx3
      have z3 := o3.size
      simp at z3
      have HO3 := Lib.hid ((HO2.out.alloc _).trans o3)
      have HSL3 := Lib.hid ((HSL0.out.apart o3 (Or.inr (by omega))).wide (lo' := w.heap.size) (by omega) (hi' := w3.heap.size) (by omega))
      clear o3 s2 HSL0
      obtain ⟨N3, rfl⟩ := Int.eq_ofNat_of_zero_le hx3b
      have hN3 : N3 ≤ 1 := by omega
      clear hx3a hx3b
      go_wp2
      go_loopw [3, 4, 5] (fun o i u wr => ∃ (l : List Cl) (A : Option Addr) (d r : Nat), r + l.length = 30 + N3 ∧ i = .int .i64 (r : Int) ∧ o = .slice A l.length d ∧ GoodC l ∧ Sl wr w.heap.size wr.heap.size 31 5 A l.length d (cls l) ∧ Src g (k + 110 + 8 * l.length) wr ∧ Only g (g + 1) w wr ∧ w2.heap.size ≤ wr.heap.size) (fun _ i _ _ => (intOf i).toNat)
      case atStart => exact ⟨[], _, _, 30 + N3, by simp, by simp, rfl, fun x hx => by simp at hx, HSL3.out, s3.more (by simp), HO3.out, by omega⟩
      case round =>
        obtain ⟨l, A, d, r, hr, rfl, rfl, hgd, hsl, hs, ho, hzr⟩ := hrel
        have HSL := Lib.hid hsl
        have HS := Lib.hid hs
        have HO := Lib.hid ho
        have HR := Lib.hid hr
        have HG := Lib.hid hgd
        have hll : l.length ≤ 31 := by omega
        clear hsl hs ho hr hgd HSL3 HO3 s3
        rcases Nat.eq_zero_or_pos r with h0 | h0
        · obtain rfl := h0
          go_wp2_with fail
          go_meet
          exact ⟨l, A, d, rfl, hll, HG.out, HSL.out, HS.out.more (by omega), HO.out, hzr⟩
        · obtain ⟨q, rfl⟩ : ∃ q, r = q + 1 := ⟨r - 1, by omega⟩
          clear h0
          have hq1 : q ≤ 31 := by have := HR.out; omega
          have hl0 : (0 : Int) ≤ (l.length : Int) := by omega
          have hlu : IntKind.u8.wrap (l.length : Int) = (l.length : Int) := by unfold IntKind.wrap; simp [IntKind.bits, IntKind.signed]; omega
          have hq2 : IntKind.u8.wrap (97 + (l.length : Int) / 26) = 97 + (l.length : Int) / 26 := by unfold IntKind.wrap; simp [IntKind.bits, IntKind.signed]; omega
          have hq3 : IntKind.u8.wrap (97 + (l.length : Int) % 26) = 97 + (l.length : Int) % 26 := by unfold IntKind.wrap; simp [IntKind.bits, IntKind.signed]; omega
          have hq4 : IntKind.u8.wrap ((l.length : Int) / 26) = (l.length : Int) / 26 := by unfold IntKind.wrap; simp [IntKind.bits, IntKind.signed]; omega
          have hq5 : IntKind.u8.wrap ((l.length : Int) % 26) = (l.length : Int) % 26 := by unfold IntKind.wrap; simp [IntKind.bits, IntKind.signed]; omega
          have hcv := conv_two (97 + (l.length : Int) / 26) (97 + (l.length : Int) % 26) wr
          have hS := HS.out.alloc (.cells #[.int .u8 (97 + (l.length : Int) / 26), .int .u8 (97 + (l.length : Int) % 26)] 5)
          go_wp2_with fail
          refine (l24New_any g _ _ _ hS (by omega) (by rw [strOfNums_size]; simp)).mono ?_
          rintro e w5 ⟨x, rfl, hgx, hsx, s5, o5⟩
          have z5 := o5.size
          simp at z5
          have HO5 := Lib.hid ((HO.out.alloc _).trans o5)
          have HSL5 := Lib.hid (((HSL.out.up _).apart o5 (Or.inr (by omega))).wide (Nat.le_refl _) (hi' := w5.heap.size) (by omega))
          clear o5 hcv hS hlu hq2 hq3 hq4 hq5
          generalize strOfNums [97 + (l.length : Int) / 26, 97 + (l.length : Int) % 26] = nm
          generalize 97 + (l.length : Int) / 26 = c1
          generalize 97 + (l.length : Int) % 26 = c2
          generalize (l.length : Int) / 26 = c3
          generalize (l.length : Int) % 26 = c4
          go_wp2_with (at_builtin; refine wpList_oneF rfl _ _ 27 rfl 31 _ 5 48 Try.underlying27 info_clD rfl (by decide) (by decide) HSL5.out (by omega) rfl (cellsCl x) _ rfl rfl rfl (cl_one2 _) (by omega) ?_; intro A10 d10 w10 sl10 b10 z10 f10 g10; have HSL10 := Lib.hid sl10; have HB10 := Lib.hid b10; clear sl10 b10 f10 g10)
          go_roundw
          case rel => exact ⟨l ++ [x], A10, d10, q, by have := HR.out; simp; omega, by go_num, by simp, goodC_snoc HG.out ⟨hgx, hsx⟩, by have := HSL10.out; rw [cls_snoc2] at this; simpa using this, (s5.below HB10.out (by omega)).more (by simp; omega), HO5.out.then HB10.out (by omega), by omega⟩
          case measure => simp [intOf]
  case rest => as_aux_lemma =>
    obtain ⟨l, A, d, rfl, hl, hgd, sl, s, o, zc⟩ := hcut
    have HO1 := Lib.hid o
    have HSL1 := Lib.hid sl
    have HG := Lib.hid hgd
    clear o sl hgd HO2 HSL2 HG1
    rcases Nat.eq_zero_or_pos l.length with h0 | h0
    · have hd0 : decide ((0 : Int) < (l.length : Int)) = false := by rw [decide_eq_false_iff_not]; omega
      have hd1 : decide (0 < l.length) = false := by rw [decide_eq_false_iff_not]; omega
      clear h0
      go_wp2
      go_ret
      exact ⟨l, A, d, rfl, hl, HG.out, HSL1.out, s.more (by omega), HO1.out⟩
    · have hd0 : decide ((0 : Int) < (l.length : Int)) = true := by rw [decide_eq_true_iff]; omega
      obtain ⟨go, rfl, hgo1, hgo2, hgo3⟩ := HSL1.out.lt h0
      go_wp2_with fail
      refine (one_any g _ 10 _ s (by omega) ⟨by omega, by omega⟩).mono ?_
      rintro e w2' ⟨b2, rfl, s2, o2⟩
      have z2' := o2.size
      have HO2 := Lib.hid (HO1.out.trans o2)
      have HSL2 := Lib.hid (HSL1.out.apart o2 (Or.inr (by omega)))
      clear o2 s
      rcases b2 with _ | _
      · go_wp2
        go_ret
        exact ⟨l, _, d, rfl, hl, HG.out, HSL2.out.wide (Nat.le_refl _) (by omega), s2.more (by omega), HO2.out⟩
      · go_wp2_with fail
        refine (pick_any g _ l.length _ s2 (by omega) ⟨by omega, by omega⟩).mono ?_
        rintro e w3 ⟨x3, rfl, hx3, s3, o3⟩
        have hx3a := hx3.lt (by omega)
        have hx3b := hx3.1
        clear hx3 s2
        have z3 := o3.size
        have HO3 := Lib.hid (HO2.out.trans o3)
        have HSL3 := Lib.hid (HSL2.out.apart o3 (Or.inr (by omega)))
        clear o3
        obtain ⟨j, rfl⟩ := Int.eq_ofNat_of_zero_le hx3b
        have hj : j < l.length := by omega
        obtain ⟨e0, e1, e2, e3, e4⟩ := cls_get (List.getElem?_eq_getElem hj)
        have q0 := (HSL3.out.cellAt (j * 5) (by omega)).trans e0
        have q1 := (HSL3.out.cellAt (j * 5 + 1) (by omega)).trans e1
        have q2 := (HSL3.out.cellAt (j * 5 + 2) (by omega)).trans e2
        have q3 := (HSL3.out.cellAt (j * 5 + 3) (by omega)).trans e3
        have q4 := (HSL3.out.cellAt (j * 5 + 4) (by omega)).trans e4
        have hj0 : (0 : Int) ≤ j := by omega
        have hfr := (HG.out _ (List.getElem_mem hj)).1.2.2.1
        clear e0 e1 e2 e3 e4
        go_wp2_with fail
        refine (l24Spoil_any g _ go (j * 5) _ _ _ _ _ _ s3 (by omega) (by omega) (by omega) hfr q0 q1 q2 q3 q4 (HSL3.out.frozenAt _) (HSL3.out.frozenAt _) (HSL3.out.frozenAt _) (HSL3.out.frozenAt _) (HSL3.out.frozenAt _)).mono ?_
        rintro e w5 ⟨rfl, w4, s4, o4, hw5⟩
        have z4 := o4.size
        have HO4 := Lib.hid (HO3.out.trans o4)
        have HSL4 := Lib.hid (HSL3.out.apart o4 (Or.inr (by omega)))
        clear q0 q1 q2 q3 q4 o4 s3
        have key : ClsDrawn g k 500 w (.returned (.slice (some ⟨go, 0, none⟩) l.length d)) w5 := by
          rcases hw5 with rfl | ⟨q, z, hz, rfl⟩
          · exact ⟨l, _, d, rfl, hl, HG.out, HSL4.out.wide (Nat.le_refl _) (by omega), s4.more (by omega), HO4.out⟩
          · obtain ⟨l', e1, e2, e3⟩ := cls_set l j hj HG.out q z hz
            refine ⟨l', some ⟨go, 0, none⟩, d, by rw [e1], by omega, e2, ?_, (s4.set_ (by simp; omega) _).more (by omega), HO4.out.far (by simp; omega) _⟩
            have := (HSL4.out.set_ (j * 5 + q) z).wide (Nat.le_refl _) (hi' := (w4.setCell ⟨go, j * 5 + q, none⟩ z).heap.size) (by simp [World.setCell]; omega)
            rw [e3] at this; rw [e1]; exact this
        have KEY := Lib.hid key
        clear key hw5 s4
        go_wp2
        go_ret
        exact KEY.out

set_option maxRecDepth 100000 in
theorem l24DrawDay_any (g k : Nat) (w : World) (h : Src g k w) (hk : k ≤ 10000000000) :
    Calls Try.prog 172 #[.pointer (some ⟨g, 0, none⟩)] w fun e w' => ∃ x : Int, e = .returned (.int .i64 x) ∧ I64 x ∧ Src g (k + 4) w' ∧ Only g (g + 1) w w' := by
  have hgw := h.lt
  go_enter Try.func172, Try.ntmps172
  go_wp2_with fail
  refine (one_any g _ 10 _ h (by omega) ⟨by omega, by omega⟩).mono ?_
  rintro e w1 ⟨b1, rfl, s1, o1⟩
  have z1 := o1.size
  have HO1 := Lib.hid o1
  clear o1 h
  rcases b1 with _ | _
  · go_wp2_with fail
    refine (pick_any g _ 120 _ s1 (by omega) ⟨by omega, by omega⟩).mono ?_
    rintro e w2 ⟨x, rfl, hx, s2, o2⟩
    have HX := Lib.hid (show I64 x from ⟨by have := hx.1; omega, by have := hx.2.2.2; omega⟩)
    have HO2 := Lib.hid (HO1.out.trans o2)
    clear hx o2
    go_wp2
    go_ret
    exact ⟨x, rfl, HX.out, s2, HO2.out⟩
  · go_wp2_with fail
    refine (among_any g _ w1.heap.size 5 2 [-1, 0, 20000, 20001, -9223372036854775808] _ (s1.alloc _) (by omega) (Blk.new w1 _ _) rfl (by omega) (by omega) (by omega)).mono ?_
    rintro e w2 ⟨x, rfl, hx, s2, o2⟩
    have HX := Lib.hid (show I64 x by simp only [List.mem_cons, List.not_mem_nil, or_false] at hx; unfold I64; omega)
    have HO2 := Lib.hid ((HO1.out.alloc (.cells #[.int .i64 (-1), .int .i64 (0), .int .i64 (20000), .int .i64 (20001), .int .i64 (-9223372036854775808)] 2)).trans o2)
    clear hx o2
    go_wp2
    go_ret
    exact ⟨x, rfl, HX.out, s2, HO2.out⟩

theorem txtN_small {t : ByteArray} (h : t ∈ ([⟨#[]⟩, ⟨#[110, 111, 110, 101]⟩, ⟨#[98, 97, 110, 107]⟩] : List ByteArray)) : t.size ≤ 1048576 := by
  simp only [List.mem_cons, List.not_mem_nil, or_false] at h
  rcases h with h | h | h <;> subst h <;> decide
set_option maxRecDepth 100000 in
theorem l24Name_any (g k lo hi d : Nat) (A : Option Addr) (l : List Cl) (w : World) (h : Src g k w) (hk : k ≤ 10000000000) (hsl : Sl w lo hi 31 5 A l.length d (cls l)) (hl : l.length ≤ 31) (hgl : g < lo) (hhi : hi ≤ w.heap.size) (hgd : GoodC l) :
    Calls Try.prog 171 #[.pointer (some ⟨g, 0, none⟩), .slice A l.length d] w fun e w' => ∃ s : ByteArray, e = .returned (.string s) ∧ s.size ≤ 1048576 ∧ Src g (k + 6) w' ∧ Only g (g + 1) w w' := by
  have hgw := h.lt
  have HSL := Lib.hid hsl
  have HG := Lib.hid hgd
  clear hsl hgd
  have key : ∀ (k' : Nat) (v : World) (Q : Ending → World → Prop), Src g k' v → k' ≤ 20000000000 → (∀ s w', s.size ≤ 1048576 → Src g (k' + 2) w' → Only g (g + 1) v w' → Q (.returned (.string s)) w') → Calls Try.prog 220 #[.pointer (some ⟨g, 0, none⟩), .slice (some ⟨v.heap.size, 0, none⟩) 3 3] (v.alloc (.cells #[.string ⟨#[]⟩, .string ⟨#[110, 111, 110, 101]⟩, .string ⟨#[98, 97, 110, 107]⟩] 9)) Q := by
    intro k' v Q hs hk' hQ
    refine (text_any g _ v.heap.size 3 9 [⟨#[]⟩, ⟨#[110, 111, 110, 101]⟩, ⟨#[98, 97, 110, 107]⟩] _ (hs.alloc _) (by omega) (Blk.new v _ _) rfl (by omega) (by omega) hs.lt).mono ?_
    rintro e w1 ⟨s, rfl, hs', s1, o1⟩
    exact hQ s w1 (txtN_small hs') s1 (((Only.refl g (g + 1) v).alloc _).trans o1)
  go_enter Try.func171, Try.ntmps171
  rcases Nat.eq_zero_or_pos l.length with h0 | h0
  · have hd0 : decide ((0 : Int) < (l.length : Int)) = false := by rw [decide_eq_false_iff_not]; omega
    have hd1 : decide (0 < l.length) = false := by rw [decide_eq_false_iff_not]; omega
    have HK := Lib.hid key
    clear key h0
    go_wp2_with fail
    refine HK.out _ _ _ h (by omega) ?_
    intro s w1 hs s1 o1
    have HO := Lib.hid o1
    clear o1
    go_wp2
    go_ret
    exact ⟨s, rfl, hs, s1.more (by omega), HO.out⟩
  · have hd0 : decide ((0 : Int) < (l.length : Int)) = true := by rw [decide_eq_true_iff]; omega
    have HK := Lib.hid key
    clear key
    obtain ⟨go, rfl, hgo1, hgo2, hgo3⟩ := HSL.out.lt h0
    go_wp2_with fail
    refine (one_any g _ 8 _ h (by omega) ⟨by omega, by omega⟩).mono ?_
    rintro e w2 ⟨b2, rfl, s2, o2⟩
    have z2 := o2.size
    have HSL2 := Lib.hid (HSL.out.apart o2 (Or.inr (by omega)))
    have HO2 := Lib.hid o2
    clear o2 h
    rcases b2 with _ | _
    · go_wp2_with fail
      refine (pick_any g _ l.length _ s2 (by omega) ⟨by omega, by omega⟩).mono ?_
      rintro e w3 ⟨x3, rfl, hx3, s3, o3⟩
      have hx3a := hx3.lt (by omega)
      have hx3b := hx3.1
      clear hx3 s2
      have z3 := o3.size
      have HO3 := Lib.hid (HO2.out.trans o3)
      have HSL3 := Lib.hid (HSL2.out.apart o3 (Or.inr (by omega)))
      clear o3
      obtain ⟨j, rfl⟩ := Int.eq_ofNat_of_zero_le hx3b
      have hj : j < l.length := by omega
      obtain ⟨e0, e1, e2, e3, e4⟩ := cls_get (List.getElem?_eq_getElem hj)
      have q0 := (HSL3.out.cellAt (j * 5) (by omega)).trans e0
      have hj0 : (0 : Int) ≤ j := by omega
      have hsm := (HG.out _ (List.getElem_mem hj)).2
      clear e0 e1 e2 e3 e4
      go_wp2
      go_ret
      exact ⟨_, rfl, hsm, s3.more (by omega), HO3.out⟩
    · go_wp2_with fail
      refine HK.out _ _ _ s2 (by omega) ?_
      intro s w1 hs s1 o1
      have HO := Lib.hid (HO2.out.trans o1)
      clear o1
      go_wp2
      go_ret
      exact ⟨s, rfl, hs, s1.more (by omega), HO.out⟩
/-- Clients, as the laws draw them. -/
def ClsOut (w : World) (l : List Cl) (A : Option Addr) (d : Nat) (w' : World) : Prop := l.length ≤ 31 ∧ GoodC l ∧ Sl w' w.heap.size w'.heap.size 31 5 A l.length d (cls l) ∧ Below w.heap.size w w'
set_option maxRecDepth 100000 in
theorem l24Dated_any (A : Option Addr) (n c : Nat) (bs : List Int) (w : World) (h : Reads w w.heap.size 1 A n (byts bs)) (hb : ∀ x ∈ bs, Byt x) (hn : n ≤ 9223372036854775807) :
    Calls Try.prog 165 #[.slice A n c] w fun e w' => ∃ (l : List Cl) (A' : Option Addr) (d : Nat) (x : Int), e = .returned (.tuple #[.slice A' l.length d, .int .i64 x]) ∧ I64 x ∧ ClsOut w l A' d w' := by
  have HH := Lib.hid h
  have HB := Lib.hid hb
  clear h hb
  go_enter Try.func165, Try.ntmps165
  go_wp2_with fail
  refine (l00From_any A n c bs _ HH.out HB.out hn).mono ?_
  rintro e w1 ⟨rfl, s1, b1, z1⟩
  go_wp2_with fail
  refine (l24Bent_any _ 0 _ s1 (by omega)).mono ?_
  rintro e w2 ⟨l, A', d, rfl, hl, hgd, sl, s2, o2⟩
  have z2 := o2.size
  have HG := Lib.hid hgd
  clear hgd
  go_wp2_with fail
  refine (l24DrawDay_any _ _ _ s2 (by omega)).mono ?_
  rintro e w4 ⟨x, rfl, hx, s4, o4⟩
  have z4 := o4.size
  have HSL := Lib.hid ((sl.apart o4 (Or.inr (by omega))).wide (lo' := w.heap.size) (by omega) (hi' := w4.heap.size) (by omega))
  have HBel := Lib.hid (b1.trans ((o2.trans o4).below (Nat.le_refl _) (by omega)))
  clear sl o2 o4 b1
  go_wp2
  refine bodyPost_ret (v := .tuple #[.slice A' l.length d, .int .i64 x]) (by simp [results, Try.results165, go_sem]) rfl ?_
  exact ⟨l, A', d, x, rfl, hx, hl, HG.out, HSL.out, HBel.out⟩
end Go.Proofs.Ytnlghcpidlpfkaa
