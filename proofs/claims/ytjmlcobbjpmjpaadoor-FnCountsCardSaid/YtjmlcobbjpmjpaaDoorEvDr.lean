/- Events that are drawn. -/
import Derived.Test.YtjmlcobbjpmjpaaDoorDrw
import Derived.Test.YtjmlcobbjpmjpaaDoorEvA
import Derived.Test.YtjmlcobbjpmjpaaDoorMat
import Derived.Deep.DeepCutAuto
set_option linter.unusedVariables false
set_option linter.unusedSimpArgs false
namespace Go.Proofs.YtjmlcobbjpmjpaaDoor
open Go.RowKit

theorem evs_snoc (l : List Ev) (x y : Int) : evs l ++ [.int .i64 x, .int .i64 y] = evs (l ++ [⟨x, y⟩]) := by simp [evs, evc]
theorem evs_set : ∀ (l : List Ev) (j : Nat) (z : Int), j < l.length → (∃ l' : List Ev, l'.length = l.length ∧ (evs l).set (j * 2) (.int .i64 z) = evs l') ∧ (∃ l' : List Ev, l'.length = l.length ∧ (evs l).set (j * 2 + 1) (.int .i64 z) = evs l')
  | [], j, z, h => by simp at h
  | a :: l, 0, z, h => ⟨⟨⟨z, a.h⟩ :: l, rfl, rfl⟩, ⟨⟨a.s, z⟩ :: l, rfl, rfl⟩⟩
  | a :: l, j + 1, z, h => by
    obtain ⟨⟨l1, h1, e1⟩, ⟨l2, h2, e2⟩⟩ := evs_set l j z (by simpa using h)
    refine ⟨⟨a :: l1, by simp [h1], ?_⟩, ⟨a :: l2, by simp [h2], ?_⟩⟩
    · rw [show (j + 1) * 2 = j * 2 + 1 + 1 by omega]
      show Value.int .i64 a.s :: .int .i64 a.h :: (evs l).set (j * 2) (.int .i64 z) = _
      rw [e1]; rfl
    · rw [show (j + 1) * 2 + 1 = j * 2 + 1 + 1 + 1 by omega]
      show Value.int .i64 a.s :: .int .i64 a.h :: (evs l).set (j * 2 + 1) (.int .i64 z) = _
      rw [e2]; rfl
theorem info_ev : (Tryd.prog.info? 101).map (fun i => (i.zero, i.size, i.bytes)) = some (some (.agg #[.int .i64 0, .int .i64 0]), 2, 16) := by kernel_rfl

/-- What a draw of events leaves. -/
def EvDrawn (g k : Nat) (w : World) (e : Ending) (w' : World) : Prop :=
  ∃ (l : List Ev) (A : Option Addr) (d : Nat), e = .returned (.slice A l.length d) ∧ l.length ≤ 201 ∧ Sl w' w.heap.size w'.heap.size 101 2 A l.length d (evs l) ∧ Src g (k + 2000) w' ∧ Only g (g + 1) w w'

set_option maxHeartbeats 4000000 in
set_option maxRecDepth 100000 in
theorem l26Draw_any (g k : Nat) (w : World) (h : Src g k w) (hk : k ≤ 10000000000) :
    Calls Tryd.prog 105 #[.pointer (some ⟨g, 0, none⟩)] w fun e w' => EvDrawn g k w e w' := by
  have hgw := h.lt
  have HSL0 := Lib.hid (Sl.made w 101 2)
  go_enter Tryd.func105, Tryd.ntmps105
  go_wp2_with fail
  refine (pick_any g k 30 _ (h.alloc _) (by omega) ⟨by omega, by omega⟩).mono ?_
  rintro e w1 ⟨x1, rfl, hx1, s1, o1⟩
  have hx1a := hx1.lt (by omega)
  have hx1b := hx1.1
  clear hx1 h
  have z1 := o1.size
  simp at z1
  have HO1 := Lib.hid (show Only g (g + 1) w w1 from (((Only.refl g (g + 1) w).alloc _).trans o1))
  have HSL1 := Lib.hid (HSL0.out.apart o1 (Or.inr (by omega)))
  clear o1
  obtain ⟨N1, rfl⟩ := Int.eq_ofNat_of_zero_le hx1b
  go_wp2_with fail
  refine (one_any g _ 24 _ s1 (by omega) ⟨by omega, by omega⟩).mono ?_
  rintro e w2 ⟨b2, rfl, s2, o2⟩
  have z2 := o2.size
  have HO2 := Lib.hid (HO1.out.trans o2)
  have HSL2 := Lib.hid (HSL1.out.apart o2 (Or.inr (by omega)))
  clear o2 s1
  go_upto_if 12 with fail
  go_cut [4] (fun s4 wx => ∃ N : Nat, N ≤ 201 ∧ s4 = .int .i64 (N : Int) ∧ Src g (k + 6) wx ∧ Only g (g + 1) w wx ∧ Sl wx w.heap.size (w.heap.size + 1) 101 2 (some ⟨w.heap.size, 0, none⟩) 0 0 [] ∧ w.heap.size < wx.heap.size)
  case first =>
    rcases b2 with _ | _
    · go_wp2_with fail
      go_meet
      exact ⟨N1, by omega, rfl, s2.more (by omega), HO2.out, HSL2.out, by omega⟩
    · go_wp2_with fail
      refine (pick_any g _ 2 _ s2 (by omega) ⟨by omega, by omega⟩).mono ?_
      rintro e w3 ⟨x3, rfl, hx3, s3, o3⟩
      have hx3a := hx3.lt (by omega)
      have hx3b := hx3.1
      clear hx3
      have z3 := o3.size
      have HO3 := Lib.hid (HO2.out.trans o3)
      have HSL3 := Lib.hid (HSL2.out.apart o3 (Or.inr (by omega)))
      clear o3 s2
      obtain ⟨N3, rfl⟩ := Int.eq_ofNat_of_zero_le hx3b
      go_wp2_with fail
      go_meet
      exact ⟨200 + N3, by omega, by simp, s3.more (by omega), HO3.out, HSL3.out, by omega⟩
  case rest =>
    obtain ⟨N, hN, rfl, s4, o4, sl4, z4⟩ := hcut
    have HO4 := Lib.hid o4
    have HSL4 := Lib.hid (sl4.wide (Nat.le_refl _) (hi' := wc.heap.size) (by omega))
    clear o4 sl4 HSL0 HSL1 HSL2 HO1 HO2
    go_wp2
    go_loopw [3, 5] (fun o i wr => ∃ (l : List Ev) (A : Option Addr) (d r : Nat), r + l.length = N ∧ i = .int .i64 (r : Int) ∧ o = .slice A l.length d ∧ Sl wr w.heap.size wr.heap.size 101 2 A l.length d (evs l) ∧ Src g (k + 6 + 4 * l.length) wr ∧ Only g (g + 1) w wr) (fun _ i _ => (intOf i).toNat)
    case atStart => exact ⟨[], _, _, N, by simp, rfl, rfl, HSL4.out, s4.more (by simp), HO4.out⟩
    case round =>
      obtain ⟨l, A, d, r, hr, rfl, rfl, hsl, hs, ho⟩ := hrel
      have HSL := Lib.hid hsl
      have HS := Lib.hid hs
      have HO := Lib.hid ho
      have HR := Lib.hid hr
      have hll : l.length ≤ 201 := by omega
      have zr := ho.size
      clear hsl hs ho hr HSL4 HO4 s4
      rcases Nat.eq_zero_or_pos r with h0 | h0
      · obtain rfl := h0
        have hln : l.length = N := by have := HR.out; omega
        rcases Nat.eq_zero_or_pos N with hN0 | hN0
        · have hNd : decide ((0 : Int) < N) = false := by simp; omega
          go_wp2
          go_ret
          exact ⟨l, A, d, rfl, hll, HSL.out, HS.out.more (by omega), HO.out⟩
        · obtain ⟨go, rfl, hgo1, hgo2, hgo3⟩ := HSL.out.lt (by omega)
          have HLN := Lib.hid hln
          clear hln
          go_wp2_with fail
          refine (pick_any g _ N _ HS.out (by omega) ⟨by omega, by omega⟩).mono ?_
          rintro e w5 ⟨x5, rfl, hx5, s5, o5⟩
          have hx5a := hx5.lt (by omega)
          have hx5b := hx5.1
          clear hx5
          have z5 := o5.size
          have HO5 := Lib.hid (HO.out.trans o5)
          have HSL5 := Lib.hid (HSL.out.apart o5 (Or.inr (by omega)))
          clear o5
          obtain ⟨j, rfl⟩ := Int.eq_ofNat_of_zero_le hx5b
          have hj : j < l.length := by have := HLN.out; omega
          go_wp2_with fail
          refine (pick_any g _ 20 _ s5 (by omega) ⟨by omega, by omega⟩).mono ?_
          rintro e w6 ⟨x6, rfl, hx6, s6, o6⟩
          clear hx6
          have z6 := o6.size
          have HO6 := Lib.hid (HO5.out.trans o6)
          have HSL6 := Lib.hid (HSL5.out.apart o6 (Or.inr (by omega)))
          clear o6 s5
          by_cases h60 : x6 = 0
          · subst h60
            go_wp2_with fail
            refine (among_any g _ w6.heap.size 5 2 [-1, 0, 9, 10, -9223372036854775808] _ (s6.alloc _) (by omega) (Blk.new w6 _ _) rfl (by omega) (by omega) (by omega)).mono ?_
            rintro e w8 ⟨z, rfl, hz, s8, o8⟩
            clear hz
            have z8 := o8.size
            simp at z8
            have HO8 := Lib.hid ((HO6.out.alloc (.cells #[.int .i64 (-1), .int .i64 (0), .int .i64 (9), .int .i64 (10), .int .i64 (-9223372036854775808)] 2)).trans o8)
            have HSL8 := Lib.hid ((HSL6.out.up (.cells #[.int .i64 (-1), .int .i64 (0), .int .i64 (9), .int .i64 (10), .int .i64 (-9223372036854775808)] 2)).apart o8 (Or.inr (by omega)))
            have c8 := HSL8.out.cellAt (j * 2) (by omega)
            rw [List.getElem?_eq_getElem (by rw [evs_length]; omega)] at c8
            have d8 := HSL8.out.frozenAt (j * 2)
            clear o8
            obtain ⟨l', hl', he'⟩ := (evs_set l j z (by omega)).1
            have HL' := Lib.hid hl'
            have HE' := Lib.hid he'
            clear hl' he'
            go_wp2
            go_ret
            refine ⟨l', some ⟨go, 0, none⟩, d, by rw [HL'.out]; rfl, by rw [HL'.out]; omega, ?_, (s8.set_ (by simp; omega) _).more (by omega), HO8.out.far (by simp; omega) _⟩
            have := (HSL8.out.set_ (j * 2) (.int .i64 z)).wide (Nat.le_refl _) (hi' := (w8.setCell ⟨go, j * 2, none⟩ (.int .i64 z)).heap.size) (by simp [World.setCell]; omega)
            rw [HE'.out] at this
            rw [HL'.out]
            exact this
          by_cases h61 : x6 = 1
          · subst h61
            go_wp2_with fail
            refine (among_any g _ w6.heap.size 4 2 [-1, 0, 23, 24] _ (s6.alloc _) (by omega) (Blk.new w6 _ _) rfl (by omega) (by omega) (by omega)).mono ?_
            rintro e w8 ⟨z, rfl, hz, s8, o8⟩
            clear hz
            have z8 := o8.size
            simp at z8
            have HO8 := Lib.hid ((HO6.out.alloc (.cells #[.int .i64 (-1), .int .i64 (0), .int .i64 (23), .int .i64 (24)] 2)).trans o8)
            have HSL8 := Lib.hid ((HSL6.out.up (.cells #[.int .i64 (-1), .int .i64 (0), .int .i64 (23), .int .i64 (24)] 2)).apart o8 (Or.inr (by omega)))
            have c8 := HSL8.out.cellAt (j * 2 + 1) (by omega)
            rw [List.getElem?_eq_getElem (by rw [evs_length]; omega)] at c8
            have d8 := HSL8.out.frozenAt (j * 2 + 1)
            clear o8
            obtain ⟨l', hl', he'⟩ := (evs_set l j z (by omega)).2
            have HL' := Lib.hid hl'
            have HE' := Lib.hid he'
            clear hl' he'
            go_wp2
            go_ret
            refine ⟨l', some ⟨go, 0, none⟩, d, by rw [HL'.out]; rfl, by rw [HL'.out]; omega, ?_, (s8.set_ (by simp; omega) _).more (by omega), HO8.out.far (by simp; omega) _⟩
            have := (HSL8.out.set_ (j * 2 + 1) (.int .i64 z)).wide (Nat.le_refl _) (hi' := (w8.setCell ⟨go, j * 2 + 1, none⟩ (.int .i64 z)).heap.size) (by simp [World.setCell]; omega)
            rw [HE'.out] at this
            rw [HL'.out]
            exact this
          · have h60' : (x6 == 0) = false := by rw [beq_eq_false_iff_ne]; exact h60
            have h61' : (x6 == 1) = false := by rw [beq_eq_false_iff_ne]; exact h61
            go_wp2
            go_ret
            exact ⟨l, _, d, rfl, hll, HSL6.out.wide (Nat.le_refl _) (by omega), s6.more (by omega), HO6.out⟩
      · obtain ⟨q, rfl⟩ : ∃ q, r = q + 1 := ⟨r - 1, by omega⟩
        clear h0
        have hq1 : q ≤ 201 := by have := HR.out; omega
        go_wp2_with fail
        refine (pick_any g _ 5 _ HS.out (by omega) ⟨by omega, by omega⟩).mono ?_
        rintro e w5 ⟨x5, rfl, hx5, s5, o5⟩
        clear hx5
        have z5 := o5.size
        have HO5 := Lib.hid ((HO.out.trans o5).alloc (.cells #[.int .i64 x5, .int .i64 0] 101))
        have HSL5 := Lib.hid ((HSL.out.apart o5 (Or.inr (by omega))).up (.cells #[.int .i64 x5, .int .i64 0] 101))
        clear o5
        go_wp2_with fail
        refine (pick_any g _ 9 _ (s5.alloc _) (by omega) ⟨by omega, by omega⟩).mono ?_
        rintro e w6 ⟨x6, rfl, hx6, s6, o6⟩
        have hx6a := hx6.lt (by omega)
        have hx6b := hx6.1
        clear hx6
        have z6 := o6.size
        simp at z6
        have HO6 := Lib.hid ((HO5.out.trans o6).far (p := ⟨w5.heap.size, 1, none⟩) (by simp; omega) (.int .i64 (6 + x6)))
        have HSL6 := Lib.hid ((HSL5.out.apart o6 (Or.inr (by omega))).farSet (p := ⟨w5.heap.size, 1, none⟩) (by simp; omega) (.int .i64 (6 + x6)))
        have c5 : w6.cell? ⟨w5.heap.size, 0, none⟩ = some (.int .i64 x5) := by
          have hb : Blk w6 w5.heap.size 101 #[.int .i64 x5, .int .i64 0] := (o6.block _ (by simp) (by omega)).trans (Blk.new w5 _ _)
          exact hb.cellAt 0 (by simp)
        have c6 : w6.cell? ⟨w5.heap.size, 1, none⟩ = some (.int .i64 0) := by
          have hb : Blk w6 w5.heap.size 101 #[.int .i64 x5, .int .i64 0] := (o6.block _ (by simp) (by omega)).trans (Blk.new w5 _ _)
          exact hb.cellAt 1 (by simp)
        have d6 : w6.frozen? ⟨w5.heap.size, 1, none⟩ = false := by
          have hb : Blk w6 w5.heap.size 101 #[.int .i64 x5, .int .i64 0] := (o6.block _ (by simp) (by omega)).trans (Blk.new w5 _ _)
          exact hb.frozen 1
        clear o6
        have hs6 : (w6.setCell ⟨w5.heap.size, 1, none⟩ (.int .i64 (6 + x6))).heap.size = w6.heap.size := by simp [World.setCell]
        go_wp2_with (at_builtin; refine wpList_oneF rfl _ _ 50 rfl 101 _ 2 16 Tryd.underlying50 info_ev rfl (by decide) (by decide) HSL6.out (by rw [hs6]; omega) rfl [.int .i64 x5, .int .i64 (6 + x6)] _ (by first | exact hs6.symm | rfl) rfl rfl (fun u hu => by simp at hu; rcases hu with rfl | rfl <;> rfl) (by omega) ?_; intro A7 d7 w7 sl7 b7 z7 f7 g7; have HSL7 := Lib.hid sl7; have HB7 := Lib.hid b7; clear sl7 b7 f7 g7)
        go_roundw
        case rel => exact ⟨l ++ [⟨x5, 6 + x6⟩], A7, d7, q, by have := HR.out; simp; omega, by go_num, by simp, by have := HSL7.out; rw [evs_snoc] at this; simpa using this, ((s6.set_ (by simp; omega) _).below HB7.out (by omega)).more (by simp; omega), HO6.out.then HB7.out (Nat.le_refl _)⟩
        case measure => simp [intOf]
end Go.Proofs.YtjmlcobbjpmjpaaDoor
