/- A text spoilt; the laws' draws for a client added, for a client's text. Clients as texts, as the reference says it. The laws' draws for a text read as a client and for two lists compared. A block beside those that a call has turned. Clients: slices.Insert of one element, at a slice of the call's own. A slice of the call's own made longer by so many zero values, where there is no room. Clients: slices.Insert of one element, where there is no room. Clients: a contract extended, as the program does it. Clients: a client added, as the program does it. Words for slices at offset nought. Clients: a client added, as the reference says it. Clients: a client added: both sides together. Clients: a contract extended, as the reference says it. Clients: a contract extended: both sides together. -/
import Derived.Test.YtjmlcobbjpmjpaaGreatDoorMgClientsAC
import Derived.Test.YtjmlcobbjpmjpaaGreatDoorMgClientsAA
import Derived.Orders
import Derived.Laws.Externs
import Derived.Lib.AppendZeros
import Derived.Deep.RegionLaw
import Derived.Lib.AppendZerosOnto
import Derived.Test.YtjmlcobbjpmjpaaGreatDoorMgClientsAB
import Derived.WalkLawsBesides
import Derived.Deep.RegionHeld3
set_option linter.unusedVariables false
set_option linter.unusedSimpArgs false
namespace Go.Proofs.YtjmlcobbjpmjpaaGreatDoor
open Go.RowKit

theorem sp_size {t : ByteArray} (h : t ∈ ([⟨#[32]⟩, ⟨#[48]⟩, ⟨#[45]⟩, ⟨#[120]⟩, ⟨#[49]⟩, ⟨#[57]⟩, ⟨#[46]⟩] : List ByteArray)) : t.size = 1 := by
  simp only [List.mem_cons, List.not_mem_nil, or_false] at h
  rcases h with h | h | h | h | h | h | h <;> subst h <;> decide
theorem four_size {t : ByteArray} (h : t ∈ ([⟨#[97, 114, 109, 115]⟩, ⟨#[99, 97, 102, 101]⟩, ⟨#[122, 111, 111]⟩, ⟨#[98, 97, 110, 107]⟩] : List ByteArray)) : t.size ≤ 1000 := by
  simp only [List.mem_cons, List.not_mem_nil, or_false] at h
  rcases h with h | h | h | h <;> subst h <;> decide
theorem Sl.nearSet {w : World} {lo hi size n c : Nat} {t : TypeId} {A : Option Addr} {xs : List Value} (h : Sl w lo hi t size A n c xs) {p : Addr} (hp : p.block < lo) (u : Value) : Sl (w.setCell p u) lo hi t size A n c xs := h.keep fun b h1 _ _ => Below.heap_setCell w p u b (by omega)
theorem size_of_ne {t : ByteArray} (h : t.toList.isEmpty = false) : 0 < t.size := by
  rcases Nat.eq_zero_or_pos t.size with e | e
  · exfalso
    rw [Go.ByteArray.toList_eq] at h
    have h0 : t.data.toList = [] := List.eq_nil_of_length_eq_zero (by simpa using e)
    rw [h0] at h
    cases h
  · exact e
set_option maxHeartbeats 4000000 in
set_option maxRecDepth 100000 in
theorem l01Spoil_any (g k : Nat) (t : ByteArray) (w : World) (h : Src g k w) (hk : k ≤ 10000000000) (ht : t.size ≤ 1000000) :
    Calls Tryz.prog 110 #[.pointer (some ⟨g, 0, none⟩), .string t] w fun e w' => ∃ t' : ByteArray, e = .returned (.string t') ∧ t'.size ≤ t.size + 1 ∧ Src g (k + 6) w' ∧ Only g (g + 1) w w' := by
  have hgw := h.lt
  go_enter Tryz.func110, Tryz.ntmps110
  go_wp2_with fail
  refine (pick_any g k 5 _ h (by omega) ⟨by omega, by omega⟩).mono ?_
  rintro e w1 ⟨x1, rfl, hx1, s1, o1⟩
  have hx1a := hx1.lt (by omega)
  have hx1b := hx1.1
  clear hx1 h
  have z1 := o1.size
  have HO1 := Lib.hid o1
  clear o1
  by_cases h0 : x1 = 0
  · subst h0
    have hwr : IntKind.i64.wrap ((t.size : Int) + 1) = (t.size : Int) + 1 := by rw [IntKind.wrap_i64]; omega
    go_wp2_with fail
    refine (pick_any g _ ((t.size : Int) + 1) _ s1 (by omega) ⟨by omega, by omega⟩).mono ?_
    rintro e w2 ⟨x2, rfl, hx2, s2, o2⟩
    have hx2a := hx2.lt (by omega)
    have hx2b := hx2.1
    clear hx2 s1
    have z2 := o2.size
    obtain ⟨j, rfl⟩ := Int.eq_ofNat_of_zero_le hx2b
    have hj : j ≤ t.size := by omega
    have HO2 := Lib.hid (HO1.out.trans o2)
    have s2d : Src g (k + 2 + 2) w2.drew := s2.keep fun _ _ => rfl
    clear o2 s2 hwr
    obtain ⟨ta, hta⟩ : ∃ y, t.extract 0 j = y := ⟨_, rfl⟩
    obtain ⟨tb, htb⟩ : ∃ y, t.extract j t.size = y := ⟨_, rfl⟩
    have HA := Lib.hid (show ta.size = j by rw [← hta, ByteArray.size_extract]; omega)
    have HSb := Lib.hid (show tb.size = t.size - j by rw [← htb, ByteArray.size_extract]; omega)
    have hj0 : (0 : Int) ≤ j := by omega
    have hj1 : (j : Int) ≤ t.size := by omega
    go_wp2_with fail
    refine wp_region_held_drew (S := (fun _ => True)) (by kernel_rfl) ?_ (fun hHeld => ?_)
    · trivial
    refine wpAnyH_take (i := 0) (v := ?_) rfl (by kernel_rfl) (by kernel_rfl) (by kernel_rfl) (fun _ _ _ h => h) (Or.inl ⟨by kernel_rfl, ?_⟩) (by assumption) ?_
    rotate_left 1
    · intro w hSw; (try dsimp only at hSw); go_simp; try with_reducible rfl
    try simp only [Act.put, List.getElem_toArray, List.getElem_cons_succ, List.getElem_cons_zero, List.setIfInBounds_toArray, List.set_cons_zero, List.set_cons_succ]
    refine wpAnyH_take (i := 1) (v := ?_) rfl (by kernel_rfl) (by kernel_rfl) (by kernel_rfl) (fun _ _ _ h => h) (Or.inl ⟨by kernel_rfl, ?_⟩) (by assumption) ?_
    rotate_left 1
    · intro w hSw; (try dsimp only at hSw); go_simp; try with_reducible rfl
    try simp only [Act.put, List.getElem_toArray, List.getElem_cons_succ, List.getElem_cons_zero, List.setIfInBounds_toArray, List.set_cons_zero, List.set_cons_succ]
    refine wpAnyH_take (i := 2) (v := ?_) rfl (by kernel_rfl) (by kernel_rfl) (by kernel_rfl) (fun _ _ _ h => h) (Or.inl ⟨by kernel_rfl, ?_⟩) (by assumption) ?_
    rotate_left 1
    · intro w hSw; (try dsimp only at hSw); go_simp; try with_reducible rfl
    try simp only [Act.put, List.getElem_toArray, List.getElem_cons_succ, List.getElem_cons_zero, List.setIfInBounds_toArray, List.set_cons_zero, List.set_cons_succ]
    refine wpAnyH_take (i := 3) (v := ?_) rfl (by kernel_rfl) (by kernel_rfl) (by kernel_rfl) (fun _ _ _ h => h) (Or.inl ⟨by kernel_rfl, ?_⟩) (by assumption) ?_
    rotate_left 1
    · intro w hSw; (try dsimp only at hSw); go_simp; try with_reducible rfl
    try simp only [Act.put, List.getElem_toArray, List.getElem_cons_succ, List.getElem_cons_zero, List.setIfInBounds_toArray, List.set_cons_zero, List.set_cons_succ]
    refine wpAnyH_take (i := 7) (v := ?_) rfl (by kernel_rfl) (by kernel_rfl) (by kernel_rfl) (fun _ _ _ h => h) (Or.inl ⟨by kernel_rfl, ?_⟩) (by assumption) ?_
    rotate_left 1
    · intro w hSw; (try dsimp only at hSw); go_simp; try with_reducible rfl
    try simp only [Act.put, List.getElem_toArray, List.getElem_cons_succ, List.getElem_cons_zero, List.setIfInBounds_toArray, List.set_cons_zero, List.set_cons_succ]
    refine wpAnyH_take (i := 8) (v := ?_) rfl (by kernel_rfl) (by kernel_rfl) (by kernel_rfl) (fun _ _ _ h => h) (Or.inl ⟨by kernel_rfl, ?_⟩) (by assumption) ?_
    rotate_left 1
    · intro w hSw; (try dsimp only at hSw); go_simp; try with_reducible rfl
    try simp only [Act.put, List.getElem_toArray, List.getElem_cons_succ, List.getElem_cons_zero, List.setIfInBounds_toArray, List.set_cons_zero, List.set_cons_succ]
    refine wpAnyH_take (i := 9) (v := ?_) rfl (by kernel_rfl) (by kernel_rfl) (by kernel_rfl) (fun _ _ _ h => h) (Or.inl ⟨by kernel_rfl, ?_⟩) (by assumption) ?_
    rotate_left 1
    · intro w hSw; (try dsimp only at hSw); go_simp; try with_reducible rfl
    try simp only [Act.put, List.getElem_toArray, List.getElem_cons_succ, List.getElem_cons_zero, List.setIfInBounds_toArray, List.set_cons_zero, List.set_cons_succ]
    refine wpAnyH_ready (rs := [4]) (by kernel_rfl) (by simp) ?_
    refine AllReadyH.cons rfl (fun K hK => ?_) AllReadyH.nil
    go_simp
    refine hK.out _ _ ?_ (fun hNew => ?_)
    · trivial
    clear hK K hHeld
    have hHeld := hNew
    clear hNew
    try simp only [Act.put, List.getElem_toArray, List.getElem_cons_succ, List.getElem_cons_zero, List.setIfInBounds_toArray, List.set_cons_zero, List.set_cons_succ]
    refine wpAnyH_ready (rs := [5]) (by kernel_rfl) (by simp) ?_
    refine AllReadyH.cons rfl (fun K hK => ?_) AllReadyH.nil
    go_simp
    go_at_call 89
    refine (text_any g _ w2.heap.size 7 9 [⟨#[32]⟩, ⟨#[48]⟩, ⟨#[45]⟩, ⟨#[120]⟩, ⟨#[49]⟩, ⟨#[57]⟩, ⟨#[46]⟩] _ (s2d.alloc _) (by omega) (Blk.new w2.drew _ _) rfl (by omega) (by omega) (by omega)).mono ?_
    rintro e w3 ⟨x, rfl, hxx, s3, o3⟩
    have HX1 := Lib.hid (sp_size hxx)
    clear hxx
    have n1 : ¬ (9223372036854775807 < ta.size + x.size) := by rw [HX1.out, HA.out]; omega
    have n2 : ¬ (9223372036854775807 < ta.size + x.size + tb.size) := by rw [HX1.out, HA.out, HSb.out]; omega
    have HO3 := Lib.hid (show Only g (g + 1) w w3 from (HO2.out.alloc (.cells #[.string ⟨#[32]⟩, .string ⟨#[48]⟩, .string ⟨#[45]⟩, .string ⟨#[120]⟩, .string ⟨#[49]⟩, .string ⟨#[57]⟩, .string ⟨#[46]⟩] 9)).trans ⟨o3.os, o3.tape, o3.output, o3.size, o3.block⟩)
    clear o3
    go_wp2_with fail
    refine hK.out _ _ ?_ (fun hNew => ?_)
    · trivial
    clear hK K hHeld
    have hHeld := hNew
    clear hNew
    try simp only [Act.put, List.getElem_toArray, List.getElem_cons_succ, List.getElem_cons_zero, List.setIfInBounds_toArray, List.set_cons_zero, List.set_cons_succ]
    refine wpAnyH_take (i := 6) (v := ?_) rfl (by kernel_rfl) (by kernel_rfl) (by kernel_rfl) (fun _ _ _ h => h) (Or.inl ⟨by kernel_rfl, ?_⟩) (by assumption) ?_
    rotate_left 1
    · intro w hSw; (try dsimp only at hSw); go_simp; try with_reducible rfl
    try simp only [Act.put, List.getElem_toArray, List.getElem_cons_succ, List.getElem_cons_zero, List.setIfInBounds_toArray, List.set_cons_zero, List.set_cons_succ]
    refine wpAnyH_take (i := 10) (v := ?_) rfl (by kernel_rfl) (by kernel_rfl) (by kernel_rfl) (fun _ _ _ h => h) (Or.inl ⟨by kernel_rfl, ?_⟩) (by assumption) ?_
    rotate_left 1
    · intro w hSw; (try dsimp only at hSw); go_simp; try with_reducible rfl
    try simp only [Act.put, List.getElem_toArray, List.getElem_cons_succ, List.getElem_cons_zero, List.setIfInBounds_toArray, List.set_cons_zero, List.set_cons_succ]
    refine wpAnyH_take (i := 11) (v := ?_) rfl (by kernel_rfl) (by kernel_rfl) (by kernel_rfl) (fun _ _ _ h => h) (Or.inl ⟨by kernel_rfl, ?_⟩) (by assumption) ?_
    rotate_left 1
    · intro w hSw; (try dsimp only at hSw); go_simp; try with_reducible rfl
    try simp only [Act.put, List.getElem_toArray, List.getElem_cons_succ, List.getElem_cons_zero, List.setIfInBounds_toArray, List.set_cons_zero, List.set_cons_succ]
    refine wpAnyH_done (by kernel_rfl) ?_ _
    go_wp2
    go_ret
    exact ⟨_, rfl, by simp only [ByteArray.size_append]; rw [HX1.out, HA.out, HSb.out]; omega, s3.more (by omega), HO3.out⟩
  by_cases h1 : x1 = 1
  · subst h1
    rcases he : t.toList.isEmpty with _ | _
    · have hp := size_of_ne he
      have hne : (!t.toList.isEmpty) = true := by rw [he]; rfl
      clear he
      go_wp2_with fail
      refine (pick_any g _ (t.size : Int) _ s1 (by omega) ⟨by omega, by omega⟩).mono ?_
      rintro e w2 ⟨x2, rfl, hx2, s2, o2⟩
      have hx2a := hx2.lt (by omega)
      have hx2b := hx2.1
      clear hx2 s1
      have z2 := o2.size
      obtain ⟨j, rfl⟩ := Int.eq_ofNat_of_zero_le hx2b
      have hj : j < t.size := by omega
      have HO2 := Lib.hid (HO1.out.trans o2)
      have HS2 := Lib.hid s2
      clear o2 s2 hne hx2b
      have hwr : IntKind.i64.wrap ((j : Int) + 1) = (j : Int) + 1 := by rw [IntKind.wrap_i64]; omega
      obtain ⟨ta, hta⟩ : ∃ y, t.extract 0 j = y := ⟨_, rfl⟩
      obtain ⟨tb, htb⟩ : ∃ y, t.extract (j + 1) t.size = y := ⟨_, rfl⟩
      have HA := Lib.hid (show ta.size = j by rw [← hta, ByteArray.size_extract]; omega)
      have HSb := Lib.hid (show tb.size = t.size - (j + 1) by rw [← htb, ByteArray.size_extract]; omega)
      have n1 : ¬ (9223372036854775807 < ta.size + tb.size) := by rw [HA.out, HSb.out]; omega
      have hj0 : (0 : Int) ≤ j := by omega
      have hj1 : (j : Int) ≤ t.size := by omega
      have hj2 : (0 : Int) ≤ (j : Int) + 1 := by omega
      have hj3 : (j : Int) + 1 ≤ t.size := by omega
      go_wp2_with fail
      go_quiet (fail)
      go_wp2
      go_ret
      exact ⟨_, rfl, by simp only [ByteArray.size_append]; rw [HA.out, HSb.out]; omega, (HS2.out.keep fun _ _ => rfl).more (by omega), HO2.out.drewN _⟩
    · have hne : (!t.toList.isEmpty) = false := by rw [he]; rfl
      clear he
      have HS1 := Lib.hid s1
      clear s1
      go_wp2
      go_ret
      exact ⟨t, rfl, by omega, HS1.out.more (by omega), HO1.out⟩
  · go_wp2
    go_ret
    exact ⟨t, rfl, by omega, s1.more (by omega), HO1.out⟩

set_option maxHeartbeats 4000000 in
set_option maxRecDepth 100000 in
theorem drawAddClient_any (A : Option Addr) (n c : Nat) (bs : List Int) (w : World) (h : Reads w w.heap.size 1 A n (byts bs)) (hb : ∀ x ∈ bs, Byt x) (hn : n ≤ 9223372036854775807) :
    Calls Tryz.prog 28 #[.slice A n c] w fun e w' => ∃ (l : List Cl) (A' : Option Addr) (d : Nat) (x : Cl), e = .returned (.tuple #[.slice A' l.length d, .agg #[.string x.name, .int .i64 x.station, .int .i64 x.from_, .int .i64 x.to_, .int .i64 x.quota]]) ∧ (x.good ∧ x.small) ∧ ClsOut w l A' d w' := by
  have HH := Lib.hid h
  have HB := Lib.hid hb
  clear h hb
  go_enter Tryz.func28, Tryz.ntmps28
  go_wp2_with fail
  obtain ⟨wz, hwz⟩ : ∃ y, w.alloc (.cells #[.string ⟨#[]⟩, .int .i64 0, .int .i64 0, .int .i64 0, .int .i64 0] 48) = y := ⟨_, rfl⟩
  rw [hwz]
  have yz : Blk wz w.heap.size 48 #[.string ⟨#[]⟩, .int .i64 0, .int .i64 0, .int .i64 0, .int .i64 0] := by rw [← hwz]; exact Blk.new _ _ _
  have bz : Below w.heap.size w wz := by rw [← hwz]; exact (Below.refl _ _).alloc (Nat.le_refl _) _
  have zz : w.heap.size + 1 = wz.heap.size := by rw [← hwz]; simp
  clear hwz
  refine (l00From_any A n c bs _ ((HH.out.on (Nat.le_refl _) bz).more (by omega)) HB.out hn).mono ?_
  rintro e w1 ⟨rfl, s1, b1, z1⟩
  have yz1 := yz.on b1
  go_wp2_with fail
  refine (l24Bent_any _ 0 _ s1 (by omega)).mono ?_
  rintro e w2 ⟨l, A', d, rfl, hl, hgd, sl, s2, o2⟩
  have yz2 := yz1.only2 o2 (Or.inl (by omega))
  have z2 := o2.size
  have HG := Lib.hid hgd
  clear hgd yz yz1
  go_wp2_with fail
  refine (text_any _ _ w2.heap.size 4 9 [⟨#[97, 114, 109, 115]⟩, ⟨#[99, 97, 102, 101]⟩, ⟨#[122, 111, 111]⟩, ⟨#[98, 97, 110, 107]⟩] _ (s2.alloc _) (by omega) (Blk.new w2 _ _) rfl (by omega) (by omega) (by omega)).mono ?_
  rintro e w3 ⟨nm, rfl, hnm, s3, o3⟩
  have hns := four_size hnm
  have z3 := o3.size
  simp at z3
  have HB3 := Lib.hid ((bz.trans (b1.mono (by omega))).trans (((o2.alloc (.cells #[.string ⟨#[97, 114, 109, 115]⟩, .string ⟨#[99, 97, 102, 101]⟩, .string ⟨#[122, 111, 111]⟩, .string ⟨#[98, 97, 110, 107]⟩] 9)).trans o3).below (by omega) (by omega)))
  have sl3 := (sl.up (.cells #[.string ⟨#[97, 114, 109, 115]⟩, .string ⟨#[99, 97, 102, 101]⟩, .string ⟨#[122, 111, 111]⟩, .string ⟨#[98, 97, 110, 107]⟩] 9)).apart o3 (Or.inr (by omega))
  have yz3 := (yz2.alloc (.cells #[.string ⟨#[97, 114, 109, 115]⟩, .string ⟨#[99, 97, 102, 101]⟩, .string ⟨#[122, 111, 111]⟩, .string ⟨#[98, 97, 110, 107]⟩] 9)).only2 o3 (Or.inl (by omega))
  clear o2 o3 sl b1 s2 hnm yz2 bz
  go_wp2_with fail
  refine (l24New_any _ _ nm _ s3 (by omega) hns).mono ?_
  rintro e w4 ⟨x, rfl, hgx, hsx, s4, o4⟩
  have z4 := o4.size
  have HB4 := Lib.hid (HB3.out.trans (o4.below (B := w.heap.size) (by omega) (by omega)))
  have sl4 := sl3.apart o4 (Or.inr (by omega))
  have yz4 := yz3.only2 o4 (Or.inl (by omega))
  clear o4 sl3 s3 yz3
  have HG1 := Lib.hid (show GoodC [x] from fun y hy => by rw [List.mem_singleton] at hy; subst hy; exact ⟨hgx.1, hsx⟩)
  clear hgx hsx
  go_wp2_with fail
  obtain ⟨w5, hw5⟩ : ∃ y, w4.alloc (.cells #[.string x.name, .int .i64 x.station, .int .i64 x.from_, .int .i64 x.to_, .int .i64 x.quota] 48) = y := ⟨_, rfl⟩
  try rw [hw5]
  have y5 : Blk w5 w4.heap.size 48 (cls [x]).toArray := by rw [← hw5]; exact Blk.new _ _ _
  have yz5 : Blk w5 w.heap.size 48 #[.string ⟨#[]⟩, .int .i64 0, .int .i64 0, .int .i64 0, .int .i64 0] := by rw [← hw5]; exact yz4.alloc _
  have s5 : Src wz.heap.size (0 + 500 + 2 + 8) w5 := by rw [← hw5]; exact s4.alloc _
  have sl5 := Lib.hid (show Sl w5 w1.heap.size w2.heap.size 48 5 A' l.length d (cls l) by rw [← hw5]; exact sl4.up _)
  have HB5 := Lib.hid (show Below w.heap.size w w5 by rw [← hw5]; exact HB4.out.alloc (by omega) _)
  have z5 : w4.heap.size + 1 = w5.heap.size := by rw [← hw5]; simp
  clear hw5 yz4 sl4 s4
  refine (one_any _ _ 8 _ s5 (by omega) ⟨by omega, by omega⟩).mono ?_
  rintro e w6 ⟨b6, rfl, s6, o6⟩
  have z6 := o6.size
  have HB6 := Lib.hid (HB5.out.trans (o6.below (B := w.heap.size) (by omega) (by omega)))
  have HSL6 := Lib.hid (sl5.out.apart o6 (Or.inr (by omega)))
  have y6 := y5.only2 o6 (Or.inr (by omega))
  have yz6 := yz5.only2 o6 (Or.inl (by omega))
  clear o6 y5 yz5 s5
  have hgz := s6.lt
  go_upto_if 17 with fail
  go_cut [] (fun wx => ∃ x' : Cl, GoodC [x'] ∧ Blk wx w4.heap.size 48 (cls [x']).toArray ∧ Blk wx w.heap.size 48 #[.string ⟨#[]⟩, .int .i64 0, .int .i64 0, .int .i64 0, .int .i64 0] ∧ Sl wx w1.heap.size w2.heap.size 48 5 A' l.length d (cls l) ∧ Below w.heap.size w wx ∧ w6.heap.size ≤ wx.heap.size)
  case first =>
    rcases b6 with _ | _
    · go_wp2_with fail
      go_meet
      exact ⟨x, HG1.out, y6, yz6, HSL6.out, HB6.out, Nat.le_refl _⟩
    · have k0 : w6.cell? ⟨w4.heap.size, 0, none⟩ = some (.string x.name) := y6.cellAt 0 (by simp [cls, cellsCl])
      have k1 : w6.cell? ⟨w4.heap.size, 1, none⟩ = some (.int .i64 x.station) := y6.cellAt 1 (by simp [cls, cellsCl])
      have k2 : w6.cell? ⟨w4.heap.size, 2, none⟩ = some (.int .i64 x.from_) := y6.cellAt 2 (by simp [cls, cellsCl])
      have k3 : w6.cell? ⟨w4.heap.size, 3, none⟩ = some (.int .i64 x.to_) := y6.cellAt 3 (by simp [cls, cellsCl])
      have k4 : w6.cell? ⟨w4.heap.size, 4, none⟩ = some (.int .i64 x.quota) := y6.cellAt 4 (by simp [cls, cellsCl])
      have hfr := (HG1.out x (by simp)).1.2.2.1
      go_wp2_with fail
      refine (l24Spoil_any _ _ w4.heap.size 0 _ _ _ _ _ _ s6 (by omega) (by omega) (by omega) hfr k0 k1 k2 k3 k4 (y6.frozen _) (y6.frozen _) (y6.frozen _) (y6.frozen _) (y6.frozen _)).mono ?_
      rintro e w8 ⟨rfl, w7, s7, o7, hw8⟩
      have z7 := o7.size
      have y7 := y6.only2 o7 (Or.inr (by omega))
      have yz7 := yz6.only2 o7 (Or.inl (by omega))
      have HSL7 := Lib.hid (HSL6.out.apart o7 (Or.inr (by omega)))
      have HB7 := Lib.hid (HB6.out.trans (o7.below (B := w.heap.size) (by omega) (by omega)))
      have key : ∃ x' : Cl, GoodC [x'] ∧ Blk w8 w4.heap.size 48 (cls [x']).toArray ∧ Blk w8 w.heap.size 48 #[.string ⟨#[]⟩, .int .i64 0, .int .i64 0, .int .i64 0, .int .i64 0] ∧ Sl w8 w1.heap.size w2.heap.size 48 5 A' l.length d (cls l) ∧ Below w.heap.size w w8 ∧ w6.heap.size ≤ w8.heap.size := by
        rcases hw8 with rfl | ⟨q, z, hz, rfl⟩
        · exact ⟨x, HG1.out, y7, yz7, HSL7.out, HB7.out, z7⟩
        · obtain ⟨l', e1, e2, e3⟩ := cls_set [x] 0 (by simp) HG1.out q z hz
          obtain ⟨x', rfl⟩ := List.length_eq_one_iff.1 (show l'.length = 1 by simpa using e1)
          refine ⟨x', e2, ?_, yz7.far (by simp; omega) _, HSL7.out.farSet (by simp; omega) _, HB7.out.setCell (by simp; omega) _, by simpa [World.setCell] using z7⟩
          have := y7.set_ (0 + q) z
          refine this.cast2 ?_
          rw [← e3]; simp
      have KEY := Lib.hid key
      clear key hw8 k0 k1 k2 k3 k4 y6 y7 yz6 yz7 s6 s7 o7
      go_wp2_with fail
      go_meet
      exact KEY.out
  case rest => as_aux_lemma =>
    obtain ⟨x', hg', y8, yz8, sl8, b8, z8⟩ := hcut
    have HB8 := Lib.hid b8
    have HSL8 := Lib.hid sl8
    have HG8 := Lib.hid hg'
    clear b8 sl8 hg' y6 yz6 HB6 HSL6 s6
    obtain ⟨xn, xs, xf, xt, xq⟩ := x'
    have HZ := Lib.hid yz8
    simp only [cls, cellsCl, List.flatMap_cons, List.flatMap_nil, List.append_nil] at y8
    clear yz8
    go_wp2_with fail
    refine wp_region_held_drew (S := (fun W => Blk W w4.heap.size 48 #[.string xn, .int .i64 xs, .int .i64 xf, .int .i64 xt, .int .i64 xq])) (by kernel_rfl) ?_ (fun hHeld => ?_)
    · exact y8.drew
    refine wpAnyH_take (i := 0) (v := ?_) rfl (by kernel_rfl) (by kernel_rfl) (by kernel_rfl) (fun _ _ _ h => h) (Or.inl ⟨by kernel_rfl, ?_⟩) (by assumption) ?_
    rotate_left 1
    · intro w hSw; (try dsimp only at hSw); go_simp; try with_reducible rfl
    try simp only [Act.put, List.getElem_toArray, List.getElem_cons_succ, List.getElem_cons_zero, List.setIfInBounds_toArray, List.set_cons_zero, List.set_cons_succ]
    refine wpAnyH_take (i := 1) (v := ?_) rfl (by kernel_rfl) (by kernel_rfl) (by kernel_rfl) (fun _ _ _ h => h) (Or.inl ⟨by kernel_rfl, ?_⟩) (by assumption) ?_
    rotate_left 1
    · intro w hSw; (try dsimp only at hSw); (have l0 := hSw.cellAt 0 (by simp)); (have l1 := hSw.cellAt 1 (by simp)); (have l2 := hSw.cellAt 2 (by simp)); (have l3 := hSw.cellAt 3 (by simp)); (have l4 := hSw.cellAt 4 (by simp)); (simp only [List.getElem_toArray, List.getElem_cons_zero, List.getElem_cons_succ] at l0 l1 l2 l3 l4); go_simp; try with_reducible rfl
    try simp only [Act.put, List.getElem_toArray, List.getElem_cons_succ, List.getElem_cons_zero, List.setIfInBounds_toArray, List.set_cons_zero, List.set_cons_succ]
    refine wpAnyH_take (i := 2) (v := ?_) rfl (by kernel_rfl) (by kernel_rfl) (by kernel_rfl) (fun _ _ _ h => h) (Or.inl ⟨by kernel_rfl, ?_⟩) (by assumption) ?_
    rotate_left 1
    · intro w hSw; (try dsimp only at hSw); go_simp; try with_reducible rfl
    try simp only [Act.put, List.getElem_toArray, List.getElem_cons_succ, List.getElem_cons_zero, List.setIfInBounds_toArray, List.set_cons_zero, List.set_cons_succ]
    refine wpAnyH_ready (rs := [3]) (by kernel_rfl) (by simp) ?_
    refine AllReadyH.cons rfl (fun K hK => ?_) AllReadyH.nil
    have d0 := HZ.out.cellAt 0 (by simp)
    have f0 := HZ.out.frozen 0
    have d1 := HZ.out.cellAt 1 (by simp)
    have f1 := HZ.out.frozen 1
    have d2 := HZ.out.cellAt 2 (by simp)
    have f2 := HZ.out.frozen 2
    have d3 := HZ.out.cellAt 3 (by simp)
    have f3 := HZ.out.frozen 3
    have d4 := HZ.out.cellAt 4 (by simp)
    have f4 := HZ.out.frozen 4
    simp only [List.getElem_toArray, List.getElem_cons_zero, List.getElem_cons_succ] at d0 d1 d2 d3 d4
    go_simp
    refine hK.out _ _ ?_ (fun hNew => ?_)
    · exact ((((((y8.far (by simp; omega) _).far (by simp; omega) _).far (by simp; omega) _).far (by simp; omega) _).far (by simp; omega) _).drew)
    clear hK K hHeld
    have hHeld := hNew
    clear hNew
    try simp only [Act.put, List.getElem_toArray, List.getElem_cons_succ, List.getElem_cons_zero, List.setIfInBounds_toArray, List.set_cons_zero, List.set_cons_succ]
    refine wpAnyH_done (by kernel_rfl) ?_ _
    obtain ⟨w9, hw9⟩ : ∃ y, (((((wc.setCell ⟨w.heap.size, 0, none⟩ (.string xn)).setCell ⟨w.heap.size, 1, none⟩ (.int .i64 xs)).setCell ⟨w.heap.size, 2, none⟩ (.int .i64 xf)).setCell ⟨w.heap.size, 3, none⟩ (.int .i64 xt)).setCell ⟨w.heap.size, 4, none⟩ (.int .i64 xq)).drew = y := ⟨_, rfl⟩
    rw [hw9]
    have yz9 : Blk w9 w.heap.size 48 #[.string xn, .int .i64 xs, .int .i64 xf, .int .i64 xt, .int .i64 xq] := by
      rw [← hw9]
      exact ((((((HZ.out.set_ 0 (.string xn)).set_ 1 (.int .i64 xs)).set_ 2 (.int .i64 xf)).set_ 3 (.int .i64 xt)).set_ 4 (.int .i64 xq)).drew).cast2 rfl
    have z9 := HB8.out.size
    have z9a : w9.heap.size = wc.heap.size := by rw [← hw9]; simp [World.setCell]
    have HB9 := Lib.hid (show Below w.heap.size w w9 by rw [← hw9]; exact ((((((HB8.out.setCell (Nat.le_refl _) _).setCell (Nat.le_refl _) _).setCell (Nat.le_refl _) _).setCell (Nat.le_refl _) _).setCell (Nat.le_refl _) _).drew))
    have HS9 := Lib.hid (show Sl w9 (w.heap.size + 1) w2.heap.size 48 5 A' l.length d (cls l) by
      rw [← hw9]
      have q := (((((HSL8.out.wide (lo' := w.heap.size + 1) (by omega) (Nat.le_refl _)).nearSet (p := ⟨w.heap.size, 0, none⟩) (Nat.lt_succ_self _) (.string xn)).nearSet (p := ⟨w.heap.size, 1, none⟩) (Nat.lt_succ_self _) (.int .i64 xs)).nearSet (p := ⟨w.heap.size, 2, none⟩) (Nat.lt_succ_self _) (.int .i64 xf)).nearSet (p := ⟨w.heap.size, 3, none⟩) (Nat.lt_succ_self _) (.int .i64 xt)).nearSet (p := ⟨w.heap.size, 4, none⟩) (Nat.lt_succ_self _) (.int .i64 xq)
      exact q)
    clear hHeld hw9
    have d0 := yz9.cellAt 0 (by simp)
    have d1 := yz9.cellAt 1 (by simp)
    have d2 := yz9.cellAt 2 (by simp)
    have d3 := yz9.cellAt 3 (by simp)
    have d4 := yz9.cellAt 4 (by simp)
    simp only [List.getElem_toArray, List.getElem_cons_zero, List.getElem_cons_succ] at d0 d1 d2 d3 d4
    go_wp2
    refine bodyPost_ret (v := .tuple #[.slice A' l.length d, .agg #[.string xn, .int .i64 xs, .int .i64 xf, .int .i64 xt, .int .i64 xq]]) ?_ rfl ?_
    · simp [results, Tryz.results28, go_sem, d0, d1, d2, d3, d4]
    exact ⟨l, A', d, ⟨xn, xs, xf, xt, xq⟩, rfl, HG8.out _ (by simp), hl, HG.out, HS9.out.wide (by omega) (by omega), HB9.out⟩

set_option maxHeartbeats 4000000 in
set_option maxRecDepth 100000 in
theorem drawClientText_any (A : Option Addr) (n c : Nat) (bs : List Int) (w : World) (h : Reads w w.heap.size 1 A n (byts bs)) (hb : ∀ x ∈ bs, Byt x) (hn : n ≤ 9223372036854775807) :
    Calls Tryz.prog 37 #[.slice A n c] w fun e w' => ∃ x : Cl, e = .returned (.agg #[.string x.name, .int .i64 x.station, .int .i64 x.from_, .int .i64 x.to_, .int .i64 x.quota]) ∧ (x.good ∧ x.small) ∧ Below w.heap.size w w' := by
  have HH := Lib.hid h
  have HB := Lib.hid hb
  clear h hb
  go_enter Tryz.func37, Tryz.ntmps37
  go_wp2_with fail
  obtain ⟨wz, hwz⟩ : ∃ y, w.alloc (.cells #[.string ⟨#[]⟩, .int .i64 0, .int .i64 0, .int .i64 0, .int .i64 0] 48) = y := ⟨_, rfl⟩
  rw [hwz]
  have yz : Blk wz w.heap.size 48 #[.string ⟨#[]⟩, .int .i64 0, .int .i64 0, .int .i64 0, .int .i64 0] := by rw [← hwz]; exact Blk.new _ _ _
  have bz : Below w.heap.size w wz := by rw [← hwz]; exact (Below.refl _ _).alloc (Nat.le_refl _) _
  have zz : w.heap.size + 1 = wz.heap.size := by rw [← hwz]; simp
  clear hwz
  refine (l00From_any A n c bs _ ((HH.out.on (Nat.le_refl _) bz).more (by omega)) HB.out hn).mono ?_
  rintro e w1 ⟨rfl, s1, b1, z1⟩
  have yz1 := yz.on b1
  go_wp2_with fail
  refine (l24Bent_any _ 0 _ s1 (by omega)).mono ?_
  rintro e w2 ⟨l, A', d, rfl, hl, hgd, sl, s2, o2⟩
  have yz2 := yz1.only2 o2 (Or.inl (by omega))
  have z2 := o2.size
  have HG := Lib.hid hgd
  clear hgd yz yz1
  have HB2 := Lib.hid ((bz.trans (b1.mono (by omega))).trans (o2.below (by omega) (by omega)))
  have d0 := yz2.cellAt 0 (by simp)
  have d1 := yz2.cellAt 1 (by simp)
  have d2 := yz2.cellAt 2 (by simp)
  have d3 := yz2.cellAt 3 (by simp)
  have d4 := yz2.cellAt 4 (by simp)
  have f0 := yz2.frozen 0
  have f1 := yz2.frozen 1
  have f2 := yz2.frozen 2
  have f3 := yz2.frozen 3
  have f4 := yz2.frozen 4
  simp only [List.getElem_toArray, List.getElem_cons_zero, List.getElem_cons_succ] at d0 d1 d2 d3 d4
  clear o2 b1 bz s2
  rcases Nat.eq_zero_or_pos l.length with h0 | h0
  · have hd0 : ((l.length : Int) == 0) = true := by rw [h0]; rfl
    have hd1 : (l.length == 0) = true := by rw [h0]; rfl
    clear h0
    go_wp2
    refine bodyPost_ret (v := .agg #[.string ⟨#[]⟩, .int .i64 0, .int .i64 0, .int .i64 0, .int .i64 0]) (by simp [results, Tryz.results37, go_sem, d0, d1, d2, d3, d4]) rfl ?_
    exact ⟨⟨⟨#[]⟩, 0, 0, 0, 0⟩, rfl, good_cl (by decide) ⟨by omega, by omega⟩ ⟨by omega, by omega⟩ ⟨by omega, by omega⟩ ⟨by omega, by omega⟩, ((((HB2.out.setCell (Nat.le_refl _) _).setCell (Nat.le_refl _) _).setCell (Nat.le_refl _) _).setCell (Nat.le_refl _) _).setCell (Nat.le_refl _) _⟩
  · have hd0 : ((l.length : Int) == 0) = false := by rw [beq_eq_false_iff_ne]; omega
    have hd1 : (l.length == 0) = false := by rw [beq_eq_false_iff_ne]; omega
    obtain ⟨go, rfl, hgo1, hgo2, hgo3⟩ := sl.lt h0
    obtain ⟨e0, e1, e2, e3, e4⟩ := cls_get (List.getElem?_eq_getElem h0)
    have q0 : w2.cell? ⟨go, 0, none⟩ = _ := (sl.cellAt (0 * 5) (by omega)).trans e0
    have q1 : w2.cell? ⟨go, 1, none⟩ = _ := (sl.cellAt (0 * 5 + 1) (by omega)).trans e1
    have q2 : w2.cell? ⟨go, 2, none⟩ = _ := (sl.cellAt (0 * 5 + 2) (by omega)).trans e2
    have q3 : w2.cell? ⟨go, 3, none⟩ = _ := (sl.cellAt (0 * 5 + 3) (by omega)).trans e3
    have q4 : w2.cell? ⟨go, 4, none⟩ = _ := (sl.cellAt (0 * 5 + 4) (by omega)).trans e4
    have hpos : (0 : Int) < l.length := by omega
    have HX := Lib.hid (HG.out _ (List.getElem_mem h0))
    generalize l[0] = x at *
    clear e0 e1 e2 e3 e4
    go_wp2
    refine bodyPost_ret (v := .agg #[.string x.name, .int .i64 x.station, .int .i64 x.from_, .int .i64 x.to_, .int .i64 x.quota]) (by simp [results, Tryz.results37, go_sem, d0, d1, d2, d3, d4]) rfl ?_
    exact ⟨x, rfl, HX.out, ((((HB2.out.setCell (Nat.le_refl _) _).setCell (Nat.le_refl _) _).setCell (Nat.le_refl _) _).setCell (Nat.le_refl _) _).setCell (Nat.le_refl _) _⟩

end Go.Proofs.YtjmlcobbjpmjpaaGreatDoor
namespace Go.Proofs.YtjmlcobbjpmjpaaGreatDoor
open Go.RowKit Go.Lib

set_option maxHeartbeats 4000000 in
set_option maxRecDepth 100000 in
theorem l24Text_any (x : Cl) (b : Nat) (w : World) (h1 : okCl x = true) (q0 : w.cell? ⟨b, 0, none⟩ = some (.string x.name)) (q1 : w.cell? ⟨b, 1, none⟩ = some (.int .i64 x.station)) (q2 : w.cell? ⟨b, 2, none⟩ = some (.int .i64 x.from_)) (q3 : w.cell? ⟨b, 3, none⟩ = some (.int .i64 x.to_)) (q4 : w.cell? ⟨b, 4, none⟩ = some (.int .i64 x.quota)) :
    Calls Tryz.prog 109 #[.pointer (some ⟨b, 0, none⟩)] w fun e w' => e = .returned (.string (textCl x)) ∧ Below w.heap.size w w' := by
  have HO := Lib.hid (textCl_yes h1)
  obtain ⟨e1, ⟨s0, s1⟩, ⟨f0, f1⟩, ⟨t0, t1⟩, ⟨q0', q1'⟩⟩ := okCl_iff.1 h1
  have hnm := (isName_len e1).2
  have hs1 : (asBytes (itoa x.station)).size ≤ 20 := by rw [asBytes_size]; exact itoa_len (by omega) (by omega)
  have hs2 : (asBytes (itoa x.from_)).size ≤ 20 := by rw [asBytes_size]; exact itoa_len (by omega) (by omega)
  have hs3 : (asBytes (itoa x.to_)).size ≤ 20 := by rw [asBytes_size]; exact itoa_len (by omega) (by omega)
  have hs4 : (asBytes (itoa x.quota)).size ≤ 20 := by rw [asBytes_size]; exact itoa_len (by omega) (by omega)
  have n1 : ¬ (9223372036854775807 < x.name.size + 1) := by omega
  have n2 : ¬ (9223372036854775807 < x.name.size + 1 + (asBytes (itoa x.station)).size) := by omega
  have n3 : ¬ (9223372036854775807 < x.name.size + 1 + (asBytes (itoa x.station)).size + 1) := by omega
  have n4 : ¬ (9223372036854775807 < x.name.size + 1 + (asBytes (itoa x.station)).size + 1 + (asBytes (itoa x.from_)).size) := by omega
  have n5 : ¬ (9223372036854775807 < x.name.size + 1 + (asBytes (itoa x.station)).size + 1 + (asBytes (itoa x.from_)).size + 1) := by omega
  have n6 : ¬ (9223372036854775807 < x.name.size + 1 + (asBytes (itoa x.station)).size + 1 + (asBytes (itoa x.from_)).size + 1 + (asBytes (itoa x.to_)).size) := by omega
  have n7 : ¬ (9223372036854775807 < x.name.size + 1 + (asBytes (itoa x.station)).size + 1 + (asBytes (itoa x.from_)).size + 1 + (asBytes (itoa x.to_)).size + 2) := by omega
  have n8 : ¬ (9223372036854775807 < x.name.size + 1 + (asBytes (itoa x.station)).size + 1 + (asBytes (itoa x.from_)).size + 1 + (asBytes (itoa x.to_)).size + 2 + (asBytes (itoa x.quota)).size) := by omega
  go_enter Tryz.func109, Tryz.ntmps109
  go_wp2_with fail
  go_region_held3 (fun W => Below w.heap.size w W ∧ W.cell? ⟨b, 0, none⟩ = some (.string x.name) ∧ W.cell? ⟨b, 1, none⟩ = some (.int .i64 x.station) ∧ W.cell? ⟨b, 2, none⟩ = some (.int .i64 x.from_) ∧ W.cell? ⟨b, 3, none⟩ = some (.int .i64 x.to_) ∧ W.cell? ⟨b, 4, none⟩ = some (.int .i64 x.quota)) (first | exact ⟨(Below.refl _ _).drew, q0, q1, q2, q3, q4⟩ | (go_split_ands; exact ⟨bnext (by assumption) hb1 (Nat.le_refl _), cell_on hb1 (by assumption), cell_on hb1 (by assumption), cell_on hb1 (by assumption), cell_on hb1 (by assumption), cell_on hb1 (by assumption)⟩) | fail "keep") (first | (go_at_call 85; refine (l01Dec_any _ _ (by omega) (by omega)).mono ?_; rintro e w2 ⟨rfl, hb1⟩) | fail "arm")
  rename_i hS
  have HF := Lib.hid hS.1
  go_wp2
  go_ret
  exact ⟨by rw [HO.out]; rfl, HF.out⟩

set_option maxHeartbeats 2000000 in
set_option maxRecDepth 100000 in
theorem specClientText_any (x : Cl) (w : World) (hx : x.good) :
    Calls Tryz.prog 44 #[.agg #[.string x.name, .int .i64 x.station, .int .i64 x.from_, .int .i64 x.to_, .int .i64 x.quota]] w fun e w' => e = .returned (.string (textCl x)) ∧ Below w.heap.size w w' := by
  rcases h1 : okCl x with _ | _
  all_goals
    go_enter Tryz.func44, Tryz.ntmps44
    go_wp2_with fail
    obtain ⟨wq, hwq⟩ : ∃ y, w.alloc (.cells #[.string x.name, .int .i64 x.station, .int .i64 x.from_, .int .i64 x.to_, .int .i64 x.quota] 48) = y := ⟨_, rfl⟩
    have bq : Below w.heap.size w wq := by rw [← hwq]; exact (Below.refl _ _).alloc (Nat.le_refl _) _
    have yq : Blk wq w.heap.size 48 #[.string x.name, .int .i64 x.station, .int .i64 x.from_, .int .i64 x.to_, .int .i64 x.quota] := by rw [← hwq]; exact Blk.new _ _ _
    rw [hwq]
    clear hwq
    have q0 : wq.cell? ⟨w.heap.size, 0, none⟩ = some (.string x.name) := yq.cellAt 0 (by simp)
    have q1 : wq.cell? ⟨w.heap.size, 1, none⟩ = some (.int .i64 x.station) := yq.cellAt 1 (by simp)
    have q2 : wq.cell? ⟨w.heap.size, 2, none⟩ = some (.int .i64 x.from_) := yq.cellAt 2 (by simp)
    have q3 : wq.cell? ⟨w.heap.size, 3, none⟩ = some (.int .i64 x.to_) := yq.cellAt 3 (by simp)
    have q4 : wq.cell? ⟨w.heap.size, 4, none⟩ = some (.int .i64 x.quota) := yq.cellAt 4 (by simp)
    refine (l24One_any x w.heap.size 0 _ hx.1 hx q0 q1 q2 q3 q4).mono ?_
    rintro e w1 ⟨rfl, m, rfl⟩
    clear yq
    have HB := Lib.hid (below_drewN bq m)
    rw [h1]
  · have HO := Lib.hid (textCl_no h1)
    go_wp2
    go_ret
    exact ⟨by rw [HO.out]; rfl, HB.out⟩
  · go_wp2_with fail
    refine (l24Text_any x w.heap.size (wq.drewN m) h1 (show (wq.drewN m).cell? _ = _ from q0) (show (wq.drewN m).cell? _ = _ from q1) (show (wq.drewN m).cell? _ = _ from q2) (show (wq.drewN m).cell? _ = _ from q3) (show (wq.drewN m).cell? _ = _ from q4)).mono ?_
    rintro e w2 ⟨rfl, b2⟩
    have HF := Lib.hid (bnext HB.out b2 (Nat.le_refl _))
    clear b2
    go_wp2
    go_ret
    exact ⟨rfl, HF.out⟩
end Go.Proofs.YtjmlcobbjpmjpaaGreatDoor
namespace Go.Proofs.YtjmlcobbjpmjpaaGreatDoor
open Go.RowKit Go.Lib

theorem textCl_size {x : Cl} (h : okCl x = true) : (textCl x).size ≤ 200 := by
  obtain ⟨e1, ⟨s0, s1⟩, ⟨f0, f1⟩, ⟨t0, t1⟩, ⟨q0', q1'⟩⟩ := okCl_iff.1 h
  have hnm := (isName_len e1).2
  have hs1 : (asBytes (itoa x.station)).size ≤ 20 := by rw [asBytes_size]; exact itoa_len (by omega) (by omega)
  have hs2 : (asBytes (itoa x.from_)).size ≤ 20 := by rw [asBytes_size]; exact itoa_len (by omega) (by omega)
  have hs3 : (asBytes (itoa x.to_)).size ≤ 20 := by rw [asBytes_size]; exact itoa_len (by omega) (by omega)
  have hs4 : (asBytes (itoa x.quota)).size ≤ 20 := by rw [asBytes_size]; exact itoa_len (by omega) (by omega)
  rw [textCl_yes h]
  simp only [ByteArray.size_append]
  have a1 : (⟨#[64]⟩ : ByteArray).size = 1 := rfl
  have a2 : (⟨#[32]⟩ : ByteArray).size = 1 := rfl
  have a3 : (⟨#[45]⟩ : ByteArray).size = 1 := rfl
  have a4 : (⟨#[32, 120]⟩ : ByteArray).size = 2 := rfl
  omega

set_option maxHeartbeats 4000000 in
set_option maxRecDepth 100000 in
theorem drawReadClient_any (A : Option Addr) (n c : Nat) (bs : List Int) (w : World) (h : Reads w w.heap.size 1 A n (byts bs)) (hb : ∀ x ∈ bs, Byt x) (hn : n ≤ 9223372036854775807) :
    Calls Tryz.prog 40 #[.slice A n c] w fun e w' => ∃ s : ByteArray, e = .returned (.string s) ∧ s.size ≤ 1000 ∧ Below w.heap.size w w' := by
  have HH := Lib.hid h
  have HB := Lib.hid hb
  clear h hb
  go_enter Tryz.func40, Tryz.ntmps40
  go_wp2_with fail
  refine (l00From_any A n c bs _ HH.out HB.out hn).mono ?_
  rintro e w1 ⟨rfl, s1, b1, z1⟩
  have hg1 := s1.lt
  go_wp2_with fail
  refine (l24New_any _ _ ⟨#[108, 97, 98, 45, 50]⟩ _ s1 (by omega) (by decide)).mono ?_
  rintro e w2 ⟨x, rfl, ⟨hgx, hokx⟩, hsx, s2, o2⟩
  have hok := hokx (by decide)
  have z2 := o2.size
  have HB2 := Lib.hid (b1.trans (o2.below (Nat.le_refl _) (by omega)))
  have hts := textCl_size hok
  have HOK := Lib.hid hok
  clear o2 b1 s1 hgx hsx hokx hok
  go_wp2_with fail
  obtain ⟨w3, hw3⟩ : ∃ y, w2.alloc (.cells #[.string x.name, .int .i64 x.station, .int .i64 x.from_, .int .i64 x.to_, .int .i64 x.quota] 48) = y := ⟨_, rfl⟩
  try rw [hw3]
  have y3 : Blk w3 w2.heap.size 48 #[.string x.name, .int .i64 x.station, .int .i64 x.from_, .int .i64 x.to_, .int .i64 x.quota] := by rw [← hw3]; exact Blk.new _ _ _
  have s3 : Src w.heap.size (0 + 8) w3 := by rw [← hw3]; exact s2.alloc _
  have HB3 := Lib.hid (show Below w.heap.size w w3 by rw [← hw3]; exact HB2.out.alloc (by omega) _)
  have z3 : w2.heap.size + 1 = w3.heap.size := by rw [← hw3]; simp
  clear hw3 s2
  refine (l24Text_any x w2.heap.size w3 HOK.out (y3.cellAt 0 (by simp)) (y3.cellAt 1 (by simp)) (y3.cellAt 2 (by simp)) (y3.cellAt 3 (by simp)) (y3.cellAt 4 (by simp))).mono ?_
  rintro e w4 ⟨rfl, b4⟩
  have s4 := s3.on b4
  have z4 := b4.size
  have HB4 := Lib.hid (bnext HB3.out b4 (by omega))
  clear b4 s3 y3
  generalize textCl x = t at *
  go_wp2_with fail
  refine (one_any _ _ 3 _ s4 (by omega) ⟨by omega, by omega⟩).mono ?_
  rintro e w5 ⟨b5, rfl, s5, o5⟩
  have z5 := o5.size
  have HB5 := Lib.hid (HB4.out.trans (o5.below (B := w.heap.size) (by omega) (by omega)))
  clear o5 s4
  rcases b5 with _ | _
  · go_wp2
    go_ret
    exact ⟨t, rfl, by omega, HB5.out⟩
  · go_wp2_with fail
    refine (l01Spoil_any _ _ t _ s5 (by omega) (by omega)).mono ?_
    rintro e w6 ⟨t', rfl, ht', s6, o6⟩
    have HB6 := Lib.hid (HB5.out.trans (o6.below (B := w.heap.size) (by omega) (by omega)))
    clear o6 s5 s6
    go_wp2
    go_ret
    exact ⟨t', rfl, by omega, HB6.out⟩

theorem Sl.lo {w : World} {lo hi size n c : Nat} {t : TypeId} {A : Option Addr} {xs : List Value} (h : Sl w lo hi t size A n c xs) : ∀ ad, A = some ad → lo ≤ ad.block ∧ ad.block < hi := by
  intro ad had
  rcases h.form with ⟨h0, _⟩ | ⟨g, cur, hg, h2, h3, _⟩
  · rw [h0] at had; cases had
  · rw [hg] at had; injection had with had; subst had; exact ⟨h2, h3⟩
theorem Sl.at0 {w : World} {lo hi size n c : Nat} {t : TypeId} {A : Option Addr} {xs : List Value} (h : Sl w lo hi t size A n c xs) (hA : A ≠ none) : ∃ g, A = some ⟨g, 0, none⟩ ∧ lo ≤ g ∧ g < hi ∧ g < w.heap.size ∧ n ≤ c := by
  rcases h.form with ⟨h0, _⟩ | ⟨g, cur, hg, h2, h3, hb, hc, _⟩
  · exact absurd h0 hA
  · exact ⟨g, hg, h2, h3, hb.lt, hc⟩
set_option maxHeartbeats 4000000 in
set_option maxRecDepth 100000 in
theorem drawSameClients_any (A : Option Addr) (n c : Nat) (bs : List Int) (w : World) (h : Reads w w.heap.size 1 A n (byts bs)) (hb : ∀ x ∈ bs, Byt x) (hn : n ≤ 9223372036854775807) :
    Calls Tryz.prog 42 #[.slice A n c] w fun e w' => ∃ (la : List Cl) (Aa : Option Addr) (da : Nat) (lb : List Cl) (Ab : Option Addr) (db : Nat), e = .returned (.tuple #[.slice Aa la.length da, .slice Ab lb.length db]) ∧ la.length ≤ 31 ∧ lb.length ≤ 32 ∧ Sl w' w.heap.size w'.heap.size 48 5 Aa la.length da (cls la) ∧ Sl w' w.heap.size w'.heap.size 48 5 Ab lb.length db (cls lb) ∧ Below w.heap.size w w' := by
  have HH := Lib.hid h
  have HB := Lib.hid hb
  clear h hb
  go_enter Tryz.func42, Tryz.ntmps42
  go_wp2_with fail
  refine (l00From_any A n c bs _ HH.out HB.out hn).mono ?_
  rintro e w1 ⟨rfl, s1, b1, z1⟩
  have hg1 := s1.lt
  go_wp2_with fail
  refine (l24Draw_any _ 0 _ s1 (by omega)).mono ?_
  rintro e w2 ⟨l, A', d, rfl, hl, hgd, sl, s2, o2⟩
  have z2 := o2.size
  have HG := Lib.hid hgd
  have HB2 := Lib.hid (b1.trans (o2.below (Nat.le_refl _) (by omega)))
  obtain ⟨ga, rfl, ha1, ha2, ha3, ha4⟩ := sl.at0 hl.2
  have HSA := Lib.hid sl
  have hcells := Lib.hid (show ∀ j u, (cls l)[j]? = some u → (w2.alloc (.cells #[] 48)).cell? ⟨ga, 0 + j, none⟩ = some u from fun j u hu => by
    rcases Nat.eq_zero_or_pos l.length with h0 | h0
    · rw [List.length_eq_zero_iff.1 h0] at hu; simp [cls] at hu
    · obtain ⟨b', off', e, _, hc⟩ := ((sl.up (.cells #[] 48)).reads (B := w2.heap.size) (by omega)).at_ h0
      injection e with e; injection e with e e'; subst e; subst e'
      exact hc j u hu)
  have acc0 := Lib.hid (Acc.made w2 48 5)
  clear hgd sl o2 b1 s1
  rcases Nat.eq_zero_or_pos l.length with h0 | h0
  · have hd0 : decide ((0 : Int) < (l.length : Int)) = false := by rw [decide_eq_false_iff_not]; omega
    have hd1 : decide (0 < l.length) = false := by rw [decide_eq_false_iff_not]; omega
    clear h0
    go_wp2_with (at_builtin; refine wpList_accMany rfl _ _ 46 rfl 48 _ 5 48 Tryz.underlying46 info_clD rfl (by decide) (by decide) acc0.out (Nat.le_refl _) rfl ga 0 l.length d (cls l) rfl (by rw [cls_length]) hcells.out (cls_one l) (by omega) ?_; intro A2 d2 w4 hacc2; rw [Nat.zero_add]; rw [Nat.zero_add, List.nil_append] at hacc2; have HA2 := Lib.hid hacc2; clear hacc2)
    have hbel := HA2.out.below (B := w2.heap.size) (Nat.le_refl _) (Nat.le_refl _)
    have z4 := hbel.size
    have s4 := s2.on hbel
    have HB4 := Lib.hid (bnext HB2.out hbel (by omega))
    have HSA4 := Lib.hid (HSA.out.on hbel)
    have HSB4 := Lib.hid (HA2.out.sl (Nat.le_refl _) (Nat.le_refl _))
    clear hbel HA2 acc0 hcells s2
    obtain ⟨w5, hw5⟩ : ∃ y, w4 = y := ⟨_, rfl⟩
    obtain ⟨lb, hlb⟩ : ∃ y, l = y := ⟨_, rfl⟩
    have HB5 := HB4
    have HSA5 := HSA4
    have HSB5 := Lib.hid (show Sl w4 w2.heap.size w4.heap.size 48 5 A2 l.length d2 (cls lb) by rw [← hlb]; exact HSB4.out)
    have s5 := s4
    have e1 : lb.length = l.length := by rw [hlb]
    clear hw5 HB4 HSA4 HSB4 hlb
    go_wp2_with fail
    refine (one_any _ _ 5 _ s5 (by omega) ⟨by omega, by omega⟩).mono ?_
    rintro e w6 ⟨b6, rfl, s6, o6⟩
    have z6 := o6.size
    have HB6 := Lib.hid (HB5.out.trans (o6.below (B := w.heap.size) (by omega) (by omega)))
    have HSA6 := Lib.hid (HSA5.out.apart o6 (Or.inr (by omega)))
    have hlb31 : lb.length ≤ 31 := by rw [e1]; exact hl.1
    have HSB6 := Lib.hid ((HSB5.out.apart o6 (Or.inr (by omega))).wide (Nat.le_refl _) (hi' := w6.heap.size) (by omega))
    clear o6 s5 HSA5 HSB5 HB5
    rcases b6 with _ | _
    · go_wp2
      go_ret2
      exact ⟨l, _, d, lb, _, _, by rw [e1]; rfl, hl.1, by omega, HSA6.out.wide (by omega) (by omega), by rw [e1]; exact HSB6.out.wide (by omega) (by omega), HB6.out⟩
    · clear HG s6
      go_wp2_with (at_builtin; refine wpList_oneF rfl _ _ 46 rfl 48 _ 5 48 Tryz.underlying46 info_clD rfl (by decide) (by decide) HSB6.out (by omega) rfl (cellsCl ⟨⟨#[]⟩, 0, 0, 0, 0⟩) _ rfl rfl rfl (cl_one2 _) (by omega) ?_; intro A10 d10 w10 sl10 b10 z10 f10 g10; have HSL10 := Lib.hid sl10; have HB10 := Lib.hid b10; have HSA10 := Lib.hid (HSA6.out.keep (w' := w10) fun q hq1 hq2 hq3 => f10 q hq3 (fun ad had => by have := HSB6.out.lo ad had; omega)); clear sl10 b10 f10 g10)
      go_ret2
      exact ⟨l, _, d, lb ++ [⟨⟨#[]⟩, 0, 0, 0, 0⟩], _, _, by rw [List.length_append, e1]; rfl, hl.1, by simp; omega, HSA10.out.wide (by omega) (by omega), by have q := HSL10.out; rw [cls_snoc2] at q; rw [List.length_append, e1]; exact q.wide (by omega) (Nat.le_refl _), HB6.out.trans (HB10.out.mono (by omega))⟩
  · have hd0 : decide ((0 : Int) < (l.length : Int)) = true := by rw [decide_eq_true_iff]; omega
    have hpos : (0 : Int) < l.length := by omega
    go_wp2_with (at_builtin; refine wpList_accMany rfl _ _ 46 rfl 48 _ 5 48 Tryz.underlying46 info_clD rfl (by decide) (by decide) acc0.out (Nat.le_refl _) rfl ga 0 l.length d (cls l) rfl (by rw [cls_length]) hcells.out (cls_one l) (by omega) ?_; intro A2 d2 w4 hacc2; rw [Nat.zero_add]; rw [Nat.zero_add, List.nil_append] at hacc2; have HA2 := Lib.hid hacc2; clear hacc2)
    have hbel := HA2.out.below (B := w2.heap.size) (Nat.le_refl _) (Nat.le_refl _)
    have z4 := hbel.size
    have s4 := s2.on hbel
    have HB4 := Lib.hid (bnext HB2.out hbel (by omega))
    have HSA4 := Lib.hid (HSA.out.on hbel)
    have HSB4 := Lib.hid (HA2.out.sl (Nat.le_refl _) (Nat.le_refl _))
    clear hbel HA2 acc0 hcells s2
    refine (one_any _ _ 2 _ s4 (by omega) ⟨by omega, by omega⟩).mono ?_
    rintro e w5 ⟨b5, rfl, s5, o5⟩
    have z5 := o5.size
    have HB5 := Lib.hid (HB4.out.trans (o5.below (B := w.heap.size) (by omega) (by omega)))
    have HSA5 := Lib.hid (HSA4.out.apart o5 (Or.inr (by omega)))
    have HSB5 := Lib.hid ((HSB4.out.apart o5 (Or.inr (by omega))).wide (Nat.le_refl _) (hi' := w5.heap.size) (by omega))
    clear o5 s4 HSA4 HSB4 HB4
    rcases b5 with _ | _
    · obtain ⟨lb, hlb⟩ : ∃ y, l = y := ⟨_, rfl⟩
      replace HSB5 := Lib.hid (show Sl w5 w2.heap.size w5.heap.size 48 5 A2 l.length d2 (cls lb) by rw [← hlb]; exact HSB5.out)
      have e1 : lb.length = l.length := by rw [hlb]
      clear hlb
      go_wp2_with fail
      refine (one_any _ _ 5 _ s5 (by omega) ⟨by omega, by omega⟩).mono ?_
      rintro e w6 ⟨b6, rfl, s6, o6⟩
      have z6 := o6.size
      have HB6 := Lib.hid (HB5.out.trans (o6.below (B := w.heap.size) (by omega) (by omega)))
      have HSA6 := Lib.hid (HSA5.out.apart o6 (Or.inr (by omega)))
      have hlb31 : lb.length ≤ 31 := by rw [e1]; exact hl.1
      have HSB6 := Lib.hid ((HSB5.out.apart o6 (Or.inr (by omega))).wide (Nat.le_refl _) (hi' := w6.heap.size) (by omega))
      clear o6 s5 HSA5 HSB5 HB5
      rcases b6 with _ | _
      · go_wp2
        go_ret2
        exact ⟨l, _, d, lb, _, _, by rw [e1]; rfl, hl.1, by omega, HSA6.out.wide (by omega) (by omega), by rw [e1]; exact HSB6.out.wide (by omega) (by omega), HB6.out⟩
      · clear HG s6
        go_wp2_with (at_builtin; refine wpList_oneF rfl _ _ 46 rfl 48 _ 5 48 Tryz.underlying46 info_clD rfl (by decide) (by decide) HSB6.out (by omega) rfl (cellsCl ⟨⟨#[]⟩, 0, 0, 0, 0⟩) _ rfl rfl rfl (cl_one2 _) (by omega) ?_; intro A10 d10 w10 sl10 b10 z10 f10 g10; have HSL10 := Lib.hid sl10; have HB10 := Lib.hid b10; have HSA10 := Lib.hid (HSA6.out.keep (w' := w10) fun q hq1 hq2 hq3 => f10 q hq3 (fun ad had => by have := HSB6.out.lo ad had; omega)); clear sl10 b10 f10 g10)
        go_ret2
        exact ⟨l, _, d, lb ++ [⟨⟨#[]⟩, 0, 0, 0, 0⟩], _, _, by rw [List.length_append, e1]; rfl, hl.1, by simp; omega, HSA10.out.wide (by omega) (by omega), by have q := HSL10.out; rw [cls_snoc2] at q; rw [List.length_append, e1]; exact q.wide (by omega) (Nat.le_refl _), HB6.out.trans (HB10.out.mono (by omega))⟩
    · obtain ⟨gb, rfl, hb1, hb2, hb3⟩ := HSB5.out.lt h0
      obtain ⟨y, hy⟩ : ∃ y, l[0]? = some y := ⟨_, List.getElem?_eq_getElem h0⟩
      obtain ⟨_, _, _, _, hy4⟩ := cls_get hy
      have c4 : w5.cell? ⟨gb, 4, none⟩ = some (.int .i64 y.quota) := (HSB5.out.cellAt 4 (by omega)).trans hy4
      have f4 : w5.frozen? ⟨gb, 4, none⟩ = false := HSB5.out.frozenAt 4
      have hyq := (HG.out y (List.mem_of_getElem? hy)).1.2.2.2.2
      clear hy
      obtain ⟨w4, hw4⟩ : ∃ y', w5 = y' := ⟨_, rfl⟩
      subst hw4
      go_wp2_with fail

      have s4d : Src w.heap.size (0 + 100 + 2) w5.drew := s5.keep fun _ _ => rfl
      clear s5
      refine wp_region_any (by kernel_rfl) ?_
      try (change wpAny _ _ _ _ _ _ _ (World.drew _))
      refine wpAny_take (i := 0) (v := ?_) rfl (by kernel_rfl) (by kernel_rfl) (by kernel_rfl) (fun _ _ _ h => h) (Or.inl ⟨by kernel_rfl, ?_⟩) ?_
      rotate_left 1
      · intro w; go_simp; try with_reducible rfl
      try simp only [Act.put, List.getElem_toArray, List.getElem_cons_succ, List.getElem_cons_zero, List.setIfInBounds_toArray, List.set_cons_zero, List.set_cons_succ]
      refine wpAny_take (i := 1) (v := ?_) rfl (by kernel_rfl) (by kernel_rfl) (by kernel_rfl) (fun _ _ _ h => h) (Or.inl ⟨by kernel_rfl, ?_⟩) ?_
      rotate_left 1
      · intro w; go_simp; try with_reducible rfl
      try simp only [Act.put, List.getElem_toArray, List.getElem_cons_succ, List.getElem_cons_zero, List.setIfInBounds_toArray, List.set_cons_zero, List.set_cons_succ]
      refine wpAny_take (i := 2) (v := ?_) rfl (by kernel_rfl) (by kernel_rfl) (by kernel_rfl) (fun _ _ _ h => h) (Or.inl ⟨by kernel_rfl, ?_⟩) ?_
      rotate_left 1
      · intro w; go_simp; try with_reducible rfl
      try simp only [Act.put, List.getElem_toArray, List.getElem_cons_succ, List.getElem_cons_zero, List.setIfInBounds_toArray, List.set_cons_zero, List.set_cons_succ]
      refine wpAny_take (i := 4) (v := ?_) rfl (by kernel_rfl) (by kernel_rfl) (by kernel_rfl) (fun _ _ _ h => h) (Or.inl ⟨by kernel_rfl, ?_⟩) ?_
      rotate_left 1
      · intro w; go_simp; try with_reducible rfl
      try simp only [Act.put, List.getElem_toArray, List.getElem_cons_succ, List.getElem_cons_zero, List.setIfInBounds_toArray, List.set_cons_zero, List.set_cons_succ]
      refine wpAny_ready (rs := [3, 5]) (by kernel_rfl) (by simp) (AllReady.cons rfl (fun K hK => ?_) (AllReady.cons rfl (fun K hK => ?_) AllReady.nil))
      · go_simp
        refine hK _ _ ?_
        clear hK K
        try simp only [Act.put, List.getElem_toArray, List.getElem_cons_succ, List.getElem_cons_zero, List.setIfInBounds_toArray, List.set_cons_zero, List.set_cons_succ]
        refine wpAny_ready (rs := [5]) (by kernel_rfl) (by simp) (AllReady.cons rfl (fun K hK => ?_) AllReady.nil)
        go_simp
        refine (pick_any _ _ 2 _ s4d (by omega) ⟨by omega, by omega⟩).mono ?_
        rintro e u5 ⟨x5, rfl, hx5, s5u, o5u⟩
        have hx5a := hx5.lt (by omega)
        have hx5b := hx5.1
        have zu := o5u.size
        have zu' : w5.heap.size ≤ u5.heap.size := zu
        have HSAu := Lib.hid ((HSA5.out.keep (w' := w5.drew) fun _ _ _ _ => rfl).apart o5u (Or.inr (by omega)))
        have HSBu := Lib.hid ((HSB5.out.keep (w' := w5.drew) fun _ _ _ _ => rfl).apart o5u (Or.inr (by omega)))
        have HBu := Lib.hid (show Below w.heap.size w u5 from HB5.out.trans (show Below w.heap.size w5 u5 from (show Only w.heap.size (w.heap.size + 1) w5 u5 from ⟨o5u.os, o5u.tape, o5u.output, o5u.size, o5u.block⟩).below (Nat.le_refl _) (by omega)))
        have k4 : u5.cell? ⟨gb, 4, none⟩ = some (.int .i64 y.quota) := (HSBu.out.cellAt 4 (by omega)).trans hy4
        have q4 : u5.frozen? ⟨gb, 4, none⟩ = false := HSBu.out.frozenAt 4
        clear hx5 o5u c4 f4 s4d
        go_wp2
        try simp only [Act.put, List.getElem_toArray, List.getElem_cons_succ, List.getElem_cons_zero, List.setIfInBounds_toArray, List.set_cons_zero, List.set_cons_succ]
        refine wpAny_take (i := 6) (v := ?_) rfl (by kernel_rfl) (by kernel_rfl) (by kernel_rfl) (fun _ _ _ h => h) (Or.inl ⟨by kernel_rfl, ?_⟩) ?_
        rotate_left 1
        · intro w; go_simp; try with_reducible rfl
        try simp only [Act.put, List.getElem_toArray, List.getElem_cons_succ, List.getElem_cons_zero, List.setIfInBounds_toArray, List.set_cons_zero, List.set_cons_succ]
        refine wpAny_take (i := 7) (v := ?_) rfl (by kernel_rfl) (by kernel_rfl) (by kernel_rfl) (fun _ _ _ h => h) (Or.inl ⟨by kernel_rfl, ?_⟩) ?_
        rotate_left 1
        · intro w; go_simp; try with_reducible rfl
        try simp only [Act.put, List.getElem_toArray, List.getElem_cons_succ, List.getElem_cons_zero, List.setIfInBounds_toArray, List.set_cons_zero, List.set_cons_succ]
        refine wpAny_take (i := 8) (v := ?_) rfl (by kernel_rfl) (by kernel_rfl) (by kernel_rfl) (fun _ _ _ h => h) (Or.inl ⟨by kernel_rfl, ?_⟩) ?_
        rotate_left 1
        · intro w; go_simp; try with_reducible rfl
        try simp only [Act.put, List.getElem_toArray, List.getElem_cons_succ, List.getElem_cons_zero, List.setIfInBounds_toArray, List.set_cons_zero, List.set_cons_succ]
        refine wpAny_ready (rs := [9]) (by kernel_rfl) (by simp) (AllReady.cons rfl (fun K hK => ?_) AllReady.nil)
        go_simp
        refine hK _ _ ?_
        clear hK K
        try simp only [Act.put, List.getElem_toArray, List.getElem_cons_succ, List.getElem_cons_zero, List.setIfInBounds_toArray, List.set_cons_zero, List.set_cons_succ]
        refine wpAny_done (by kernel_rfl) ?_ _
        obtain ⟨w6, hw5⟩ : ∃ y', u5.setCell ⟨gb, 4, none⟩ (.int .i64 (IntKind.i64.wrap (y.quota + x5))) = y' := ⟨_, rfl⟩
        rw [hw5]
        obtain ⟨lb, e1, e2, e3⟩ := cls_set l 0 h0 HG.out 4 (.int .i64 (IntKind.i64.wrap (y.quota + x5))) (.inr ⟨by omega, by omega, _, ⟨by rw [IntKind.wrap_i64]; omega, by rw [IntKind.wrap_i64]; omega⟩, rfl⟩)
        have z5 : w6.heap.size = u5.heap.size := by rw [← hw5]; simp [World.setCell]
        have HB6 := Lib.hid (show Below w.heap.size w w6 by rw [← hw5]; exact HBu.out.setCell (by simp; omega) _)
        have HSA6x := Lib.hid (show Sl w6 w1.heap.size w2.heap.size 48 5 (some ⟨ga, 0, none⟩) l.length d (cls l) by rw [← hw5]; exact HSAu.out.farSet (by simp; omega) _)
        have HSB6x := Lib.hid (show Sl w6 w2.heap.size w6.heap.size 48 5 (some ⟨gb, 0, none⟩) l.length d2 (cls lb) by
          rw [← e3, ← hw5]
          exact (HSBu.out.set_ (0 * 5 + 4) _).wide (Nat.le_refl _) (by simp [World.setCell]; omega))
        have s5 : Src w.heap.size (0 + 100 + 2 + 2) w6 := by rw [← hw5]; exact s5u.set_ (by simp; omega) _
        clear hw5 s5u k4 q4 HBu HSAu HSBu HB5 HSA5 HSB5 e3
        go_wp2_with fail
        refine (one_any _ _ 5 _ s5 (by omega) ⟨by omega, by omega⟩).mono ?_
        rintro e w7 ⟨b6, rfl, s6, o6⟩
        have z6 := o6.size
        have HB7 := Lib.hid (HB6.out.trans (o6.below (B := w.heap.size) (by omega) (by omega)))
        have HSA6 := Lib.hid (HSA6x.out.apart o6 (Or.inr (by omega)))
        have hlb31 : lb.length ≤ 31 := by rw [e1]; exact hl.1
        have HSB6 := Lib.hid ((HSB6x.out.apart o6 (Or.inr (by omega))).wide (Nat.le_refl _) (hi' := w7.heap.size) (by omega))
        clear o6 s5 HSA6x HSB6x HB6
        rcases b6 with _ | _
        · go_wp2
          go_ret2
          exact ⟨l, _, d, lb, _, _, by rw [e1]; rfl, hl.1, by omega, HSA6.out.wide (by omega) (by omega), by rw [e1]; exact HSB6.out.wide (by omega) (by omega), HB7.out⟩
        · clear HG s6
          go_wp2_with (at_builtin; refine wpList_oneF rfl _ _ 46 rfl 48 _ 5 48 Tryz.underlying46 info_clD rfl (by decide) (by decide) HSB6.out (by omega) rfl (cellsCl ⟨⟨#[]⟩, 0, 0, 0, 0⟩) _ rfl rfl rfl (cl_one2 _) (by omega) ?_; intro A10 d10 w10 sl10 b10 z10 f10 g10; have HSL10 := Lib.hid sl10; have HB10 := Lib.hid b10; have HSA10 := Lib.hid (HSA6.out.keep (w' := w10) fun q hq1 hq2 hq3 => f10 q hq3 (fun ad had => by have := HSB6.out.lo ad had; omega)); clear sl10 b10 f10 g10)
          go_ret2
          exact ⟨l, _, d, lb ++ [⟨⟨#[]⟩, 0, 0, 0, 0⟩], _, _, by rw [List.length_append, e1]; rfl, hl.1, by simp; omega, HSA10.out.wide (by omega) (by omega), by have q := HSL10.out; rw [cls_snoc2] at q; rw [List.length_append, e1]; exact q.wide (by omega) (Nat.le_refl _), HB7.out.trans (HB10.out.mono (by omega))⟩
      · go_simp
        refine (pick_any _ _ 2 _ s4d (by omega) ⟨by omega, by omega⟩).mono ?_
        rintro e u5 ⟨x5, rfl, hx5, s5u, o5u⟩
        have hx5a := hx5.lt (by omega)
        have hx5b := hx5.1
        have zu := o5u.size
        have zu' : w5.heap.size ≤ u5.heap.size := zu
        have HSAu := Lib.hid ((HSA5.out.keep (w' := w5.drew) fun _ _ _ _ => rfl).apart o5u (Or.inr (by omega)))
        have HSBu := Lib.hid ((HSB5.out.keep (w' := w5.drew) fun _ _ _ _ => rfl).apart o5u (Or.inr (by omega)))
        have HBu := Lib.hid (show Below w.heap.size w u5 from HB5.out.trans (show Below w.heap.size w5 u5 from (show Only w.heap.size (w.heap.size + 1) w5 u5 from ⟨o5u.os, o5u.tape, o5u.output, o5u.size, o5u.block⟩).below (Nat.le_refl _) (by omega)))
        have k4 : u5.cell? ⟨gb, 4, none⟩ = some (.int .i64 y.quota) := (HSBu.out.cellAt 4 (by omega)).trans hy4
        have q4 : u5.frozen? ⟨gb, 4, none⟩ = false := HSBu.out.frozenAt 4
        clear hx5 o5u c4 f4 s4d
        go_wp2
        try simp only [Act.put, List.getElem_toArray, List.getElem_cons_succ, List.getElem_cons_zero, List.setIfInBounds_toArray, List.set_cons_zero, List.set_cons_succ]
        refine wpAny_ready (rs := [3]) (by kernel_rfl) (by simp) (AllReady.cons rfl (fun K hK => ?_) AllReady.nil)
        go_simp
        refine hK _ _ ?_
        clear hK K
        try simp only [Act.put, List.getElem_toArray, List.getElem_cons_succ, List.getElem_cons_zero, List.setIfInBounds_toArray, List.set_cons_zero, List.set_cons_succ]
        refine wpAny_take (i := 6) (v := ?_) rfl (by kernel_rfl) (by kernel_rfl) (by kernel_rfl) (fun _ _ _ h => h) (Or.inl ⟨by kernel_rfl, ?_⟩) ?_
        rotate_left 1
        · intro w; go_simp; try with_reducible rfl
        try simp only [Act.put, List.getElem_toArray, List.getElem_cons_succ, List.getElem_cons_zero, List.setIfInBounds_toArray, List.set_cons_zero, List.set_cons_succ]
        refine wpAny_take (i := 7) (v := ?_) rfl (by kernel_rfl) (by kernel_rfl) (by kernel_rfl) (fun _ _ _ h => h) (Or.inl ⟨by kernel_rfl, ?_⟩) ?_
        rotate_left 1
        · intro w; go_simp; try with_reducible rfl
        try simp only [Act.put, List.getElem_toArray, List.getElem_cons_succ, List.getElem_cons_zero, List.setIfInBounds_toArray, List.set_cons_zero, List.set_cons_succ]
        refine wpAny_take (i := 8) (v := ?_) rfl (by kernel_rfl) (by kernel_rfl) (by kernel_rfl) (fun _ _ _ h => h) (Or.inl ⟨by kernel_rfl, ?_⟩) ?_
        rotate_left 1
        · intro w; go_simp; try with_reducible rfl
        try simp only [Act.put, List.getElem_toArray, List.getElem_cons_succ, List.getElem_cons_zero, List.setIfInBounds_toArray, List.set_cons_zero, List.set_cons_succ]
        refine wpAny_ready (rs := [9]) (by kernel_rfl) (by simp) (AllReady.cons rfl (fun K hK => ?_) AllReady.nil)
        go_simp
        refine hK _ _ ?_
        clear hK K
        try simp only [Act.put, List.getElem_toArray, List.getElem_cons_succ, List.getElem_cons_zero, List.setIfInBounds_toArray, List.set_cons_zero, List.set_cons_succ]
        refine wpAny_done (by kernel_rfl) ?_ _
        obtain ⟨w6, hw5⟩ : ∃ y', u5.setCell ⟨gb, 4, none⟩ (.int .i64 (IntKind.i64.wrap (y.quota + x5))) = y' := ⟨_, rfl⟩
        rw [hw5]
        obtain ⟨lb, e1, e2, e3⟩ := cls_set l 0 h0 HG.out 4 (.int .i64 (IntKind.i64.wrap (y.quota + x5))) (.inr ⟨by omega, by omega, _, ⟨by rw [IntKind.wrap_i64]; omega, by rw [IntKind.wrap_i64]; omega⟩, rfl⟩)
        have z5 : w6.heap.size = u5.heap.size := by rw [← hw5]; simp [World.setCell]
        have HB6 := Lib.hid (show Below w.heap.size w w6 by rw [← hw5]; exact HBu.out.setCell (by simp; omega) _)
        have HSA6x := Lib.hid (show Sl w6 w1.heap.size w2.heap.size 48 5 (some ⟨ga, 0, none⟩) l.length d (cls l) by rw [← hw5]; exact HSAu.out.farSet (by simp; omega) _)
        have HSB6x := Lib.hid (show Sl w6 w2.heap.size w6.heap.size 48 5 (some ⟨gb, 0, none⟩) l.length d2 (cls lb) by
          rw [← e3, ← hw5]
          exact (HSBu.out.set_ (0 * 5 + 4) _).wide (Nat.le_refl _) (by simp [World.setCell]; omega))
        have s5 : Src w.heap.size (0 + 100 + 2 + 2) w6 := by rw [← hw5]; exact s5u.set_ (by simp; omega) _
        clear hw5 s5u k4 q4 HBu HSAu HSBu HB5 HSA5 HSB5 e3
        go_wp2_with fail
        refine (one_any _ _ 5 _ s5 (by omega) ⟨by omega, by omega⟩).mono ?_
        rintro e w7 ⟨b6, rfl, s6, o6⟩
        have z6 := o6.size
        have HB7 := Lib.hid (HB6.out.trans (o6.below (B := w.heap.size) (by omega) (by omega)))
        have HSA6 := Lib.hid (HSA6x.out.apart o6 (Or.inr (by omega)))
        have hlb31 : lb.length ≤ 31 := by rw [e1]; exact hl.1
        have HSB6 := Lib.hid ((HSB6x.out.apart o6 (Or.inr (by omega))).wide (Nat.le_refl _) (hi' := w7.heap.size) (by omega))
        clear o6 s5 HSA6x HSB6x HB6
        rcases b6 with _ | _
        · go_wp2
          go_ret2
          exact ⟨l, _, d, lb, _, _, by rw [e1]; rfl, hl.1, by omega, HSA6.out.wide (by omega) (by omega), by rw [e1]; exact HSB6.out.wide (by omega) (by omega), HB7.out⟩
        · clear HG s6
          go_wp2_with (at_builtin; refine wpList_oneF rfl _ _ 46 rfl 48 _ 5 48 Tryz.underlying46 info_clD rfl (by decide) (by decide) HSB6.out (by omega) rfl (cellsCl ⟨⟨#[]⟩, 0, 0, 0, 0⟩) _ rfl rfl rfl (cl_one2 _) (by omega) ?_; intro A10 d10 w10 sl10 b10 z10 f10 g10; have HSL10 := Lib.hid sl10; have HB10 := Lib.hid b10; have HSA10 := Lib.hid (HSA6.out.keep (w' := w10) fun q hq1 hq2 hq3 => f10 q hq3 (fun ad had => by have := HSB6.out.lo ad had; omega)); clear sl10 b10 f10 g10)
          go_ret2
          exact ⟨l, _, d, lb ++ [⟨⟨#[]⟩, 0, 0, 0, 0⟩], _, _, by rw [List.length_append, e1]; rfl, hl.1, by simp; omega, HSA10.out.wide (by omega) (by omega), by have q := HSL10.out; rw [cls_snoc2] at q; rw [List.length_append, e1]; exact q.wide (by omega) (Nat.le_refl _), HB7.out.trans (HB10.out.mono (by omega))⟩
end Go.Proofs.YtjmlcobbjpmjpaaGreatDoor
namespace Go.Proofs.YtjmlcobbjpmjpaaGreatDoor
open Go.RowKit
theorem Blk.apart {w w' : World} {g lo hi : Nat} {t : TypeId} {cs : Array Value} (h : Blk w g t cs) (ho : Only lo hi w w') (hd : g < lo ∨ hi ≤ g) : Blk w' g t cs := (ho.block g h.lt hd).trans h
end Go.Proofs.YtjmlcobbjpmjpaaGreatDoor
namespace Go.Proofs.YtjmlcobbjpmjpaaGreatDoor
open Go.RowKit

theorem iszCl : (Tryz.prog.info? 48).map (·.size) = some 5 := by kernel_rfl
theorem iovCl (w : World) (vb g o lb cb : Nat) (t : TypeId) (vs cur : List Value) (hv : Blk w vb t vs.toArray) (hg : Blk w g t cur.toArray) (hne : vb ≠ g) (hk : cur.length ≠ 0) :
    (callFunc 151 #[.slice (some ⟨vb, 0, none⟩) 1 1, .slice (some ⟨g, o, none⟩) lb cb]).run Tryz.prog w = .ok (.value (.bool false)) w := by
  have hsz : ∀ w, (Go.sizeOf 48).run Tryz.prog w = .ok 5 w := fun w => by kernel_rfl
  have hsa : w.shape? vb = some (t, vs.length) := by
    unfold Blk at hv
    simp [World.shape?, hv]
  have hsb : w.shape? g = some (t, cur.length) := by
    unfold Blk at hg
    simp [World.shape?, hg]
  rw [run_callFunc_extern (fn := Tryz.f151) (by kernel_rfl) (by kernel_rfl) (by kernel_rfl) (by kernel_rfl) (e := Extern.SlicesOverlaps.overlaps #[46, 46] #[4]) (by kernel_rfl),
    Lib.run_overlaps_apart w 46 4 48 Tryz.underlying46 5 hsz ⟨vb, 0, none⟩ ⟨g, o, none⟩ 1 1 lb cb hne t t vs.length cur.length hsa hsb hk (hv.frozen 0) (hv.frozen _)]
  rfl

set_option maxHeartbeats 4000000 in
set_option maxRecDepth 100000 in
theorem insCl_end (g n c vb lo hi : Nat) (xs vs : List Value) (w : World) (h : Sl w lo hi 48 5 (some ⟨g, 0, none⟩) n c xs) (hhi : hi ≤ w.heap.size) (hn : n ≤ 1000000) (hc : c ≤ 9223372036854775807) (hv : Blk w vb 48 vs.toArray) (hvl : vs.length = 5) (h1v : ∀ u ∈ vs, u.oneCell' = true) :
    Calls Tryz.prog 93 #[.slice (some ⟨g, 0, none⟩) n c, .int .i64 n, .slice (some ⟨vb, 0, none⟩) 1 1] w fun e w' => ∃ A' c', e = .returned (.slice A' (n + 1) c') ∧ Sl w' lo w'.heap.size 48 5 A' (n + 1) c' (xs ++ vs) ∧ Only lo w.heap.size w w' := by
  have hg1 : lo ≤ g := by
    rcases h.form with ⟨h0, _⟩ | ⟨g', _, e, h1, _⟩
    · cases h0
    · injection e with e; injection e with e; omega
  have hg2 : g < hi := h.2 _ rfl
  have acc0 := Lib.hid (Acc.start (b0 := g) h (fun a ha => by injection ha with ha; subst ha; rfl) w.heap.size)
  have hcells := Lib.hid (show ∀ j u, vs[j]? = some u → w.cell? ⟨vb, 0 + j, none⟩ = some u from fun j u hu => by rw [Nat.zero_add, hv.cell]; simpa using hu)
  have hnc : n ≤ c := by
    rcases h.form with ⟨h0, _⟩ | ⟨g', _, e, _, _, _, hh, _⟩
    · cases h0
    · exact hh
  have HV1 := Lib.hid h1v
  clear h hv h1v
  by_cases hcn : c = n
  · subst hcn
    go_enter Tryz.func93, Tryz.ntmps93
    go_wp2_with (at_builtin; refine wpList_accMany rfl _ _ 46 rfl 48 _ 5 48 Tryz.underlying46 info_cl rfl (by decide) (by decide) acc0.out (Nat.le_refl _) rfl vb 0 1 1 vs rfl (by omega) hcells.out HV1.out (by omega) ?_; intro A2 d2 w9 hacc2; have HA2 := Lib.hid hacc2; clear hacc2)
    go_ret
    exact ⟨_, _, rfl, HA2.out.sl hg1 (by omega), ⟨HA2.out.os, HA2.out.tape, HA2.out.output, HA2.out.size, fun k hk hd => HA2.out.block k hk (by omega)⟩⟩
  · go_enter Tryz.func93, Tryz.ntmps93
    go_wp2_with (at_builtin; refine wpList_accMany rfl _ _ 46 rfl 48 _ 5 48 Tryz.underlying46 info_cl rfl (by decide) (by decide) acc0.out (Nat.le_refl _) rfl vb 0 1 1 vs rfl (by omega) hcells.out HV1.out (by omega) ?_; intro A2 d2 w9 hacc2; have HA2 := Lib.hid hacc2; clear hacc2)
    go_ret
    exact ⟨_, _, rfl, HA2.out.sl hg1 (by omega), ⟨HA2.out.os, HA2.out.tape, HA2.out.output, HA2.out.size, fun k hk hd => HA2.out.block k hk (by omega)⟩⟩

set_option maxHeartbeats 4000000 in
set_option maxRecDepth 100000 in
theorem insCl_shift (g n c i vb lo hi : Nat) (cur xs vs : List Value) (w : World) (hB : Blk w g 48 cur.toArray) (hcs : cur.length = c * 5) (hx : cur.take (n * 5) = xs) (hg1 : lo ≤ g) (hg2 : g < hi) (hhi : hi ≤ w.heap.size) (hi' : i < n) (hnc : n + 1 ≤ c) (hn : n ≤ 1000000) (hc : c ≤ maxLen) (h1x : ∀ u ∈ xs, u.oneCell' = true) (hv : Blk w vb 48 vs.toArray) (hvl : vs.length = 5) (hvb : vb ≠ g) (h1v : ∀ u ∈ vs, u.oneCell' = true) :
    Calls Tryz.prog 93 #[.slice (some ⟨g, 0, none⟩) n c, .int .i64 i, .slice (some ⟨vb, 0, none⟩) 1 1] w fun e w' => ∃ A' c', e = .returned (.slice A' (n + 1) c') ∧ Sl w' lo w'.heap.size 48 5 A' (n + 1) c' (xs.take (i * 5) ++ vs ++ xs.drop (i * 5)) ∧ Only lo w.heap.size w w' := by
  have hxl : xs.length = n * 5 := by rw [← hx]; simp; omega
  have HFin := Lib.hid (splice_shift (cur := cur) (xs := xs) (vs := vs) (p := i * 5) (q := 5) (N := n * 5) hx (by omega) hvl (by omega))
  have hov := iovCl w vb g
  have HOv := Lib.hid (fun o lb cb => iovCl w vb g o lb cb 48 vs cur hv hB hvb (by omega))
  clear hov
  obtain ⟨ys, hys⟩ : ∃ ys, ys = xs.drop (i * 5) := ⟨_, rfl⟩
  have hyl : ys.length = (n - i) * 5 := by rw [hys, List.length_drop]; omega
  have h1y : ∀ u ∈ ys, u.oneCell' = true := fun u hu => h1x u (List.mem_of_mem_drop (by rw [hys] at hu; exact hu))
  have HY1 := Lib.hid h1y
  have HYL := Lib.hid hyl
  have HNe := Lib.hid hvb
  have HVl := Lib.hid hvl
  have HXl := Lib.hid hxl
  have HV1 := Lib.hid h1v
  have HYS := Lib.hid hys
  have hsrc := Lib.hid (show ∀ j u, ys[j]? = some u → w.cell? ⟨g, i * 5 + j, none⟩ = some u from fun j u hu => by
    rw [hys, List.getElem?_drop] at hu
    rw [hB.cell, List.getElem?_toArray]
    rw [← hx, List.getElem?_take] at hu
    split at hu
    · exact hu
    · cases hu)
  have HBl := Lib.hid hB
  have HVb := Lib.hid hv
  have hw1 : IntKind.i64.wrap ((i : Int) + 1) = (i : Int) + 1 := by rw [IntKind.wrap_i64]; omega
  have hw2 : IntKind.i64.wrap ((n : Int) + 1) = (n : Int) + 1 := by rw [IntKind.wrap_i64]; unfold maxLen at hc; omega
  have hb1 : (0 : Int) ≤ (i : Int) + 1 := by omega
  have htn : ((i : Int) + 1).toNat = i + 1 := by omega
  have htn2 : ((n : Int) + 1).toNat = n + 1 := by omega
  have hz2 : ¬ ((i : Int) = (n : Int)) := by omega
  have hz3 : decide ((c : Int) < (n : Int) + 1) = false := decide_eq_false (by omega)
  have hb2 : ¬ (c = i + 1) := by omega
  have hb3 : (i : Int) ≤ (n : Int) + 1 := by omega
  have hb4 : ¬ (c = i) := by omega
  have hb5 : (i : Int) ≤ (n : Int) := by omega
  have hb6 : (n : Int) + 1 ≤ (c : Int) := by omega
  have hb7 : (i : Int) + 1 ≤ (n : Int) + 1 := by omega
  have hc' : c ≤ 9223372036854775807 := by unfold maxLen at hc; omega
  clear hB hv h1x h1v h1y hx hys hvb hyl hvl hxl
  go_enter Tryz.func93, Tryz.ntmps93
  go_wp2_with (simp only [HOv.out])
  go_region_law (refine step_copyBlk rfl _ _ 46 46 rfl 48 5 Tryz.underlying46 iszCl g ((i + 1) * 5) (n - i) (c - (i + 1)) ⟨g, i * 5, none⟩ (n + 1 - i) (c - i) (by simp [Act.eval, Act.put]) (by simp [Act.eval, Act.put]) (i * 5 + 5) (by omega) cur 48 HBl.out ys (by have := HYL.out; simp only [Nat.min_def]; split <;> omega) (fun j v hj => by rw [add_plain]; exact hsrc.out j v hj) (by have := HYL.out; omega) HY1.out ?_; intro w4 hw4)
  have HW4 := Lib.hid hw4
  clear hw4
  have hvs := Lib.hid (show ∀ j u, vs[j]? = some u → w4.cell? ⟨vb, 0 + j, none⟩ = some u from fun j u hu => by
    rw [World.cell?_of_block (HW4.out.block vb HNe.out), Nat.zero_add]
    refine (HVb.out.cell j).trans ?_
    simpa using hu)
  go_wp2_with fail
  have hrun := run_copy_blk w4 46 46 3 48 5 g (i * 5) (n + 1 - i) (c - i) ⟨vb, 0, none⟩ 1 1 (splice cur (i * 5 + 5) ys).toArray 48 vs Tryz.underlying46 iszCl HW4.out.blk (by rw [HVl.out]; simp only [Nat.min_def]; split <;> omega) (fun j v hj => by rw [add_plain]; exact hvs.out j v hj) (by rw [List.size_toArray, length_splice _ _ _ (by have := HYL.out; omega), HVl.out]; omega) HV1.out
  rw [hrun]
  clear hrun
  obtain ⟨w5, hw5'⟩ : ∃ y, w4.setRow g ((splice cur (i * 5 + 5) ys).toArray.toList.take (i * 5) ++ vs ++ (splice cur (i * 5 + 5) ys).toArray.toList.drop (i * 5 + vs.length)).toArray = y := ⟨_, rfl⟩
  have HW5 := Lib.hid (show Laid g 48 (splice (splice cur (i * 5 + 5) ys) (i * 5) vs) w4 w5 by
    rw [← hw5']
    have := laid_setRow HW4.out.blk (splice (splice cur (i * 5 + 5) ys) (i * 5) vs)
    simpa [splice] using this)
  rw [hw5']
  clear hw5'
  go_wp2
  go_ret
  have hL := HW4.out.drew.trans HW5.out
  rw [HYS.out] at hL
  have hlen : (splice (splice cur (i * 5 + 5) (xs.drop (i * 5))) (i * 5) vs).length = c * 5 := by
    have hyl := HYL.out
    rw [HYS.out] at hyl
    rw [length_splice _ _ _ (by rw [length_splice _ _ _ (by omega), HVl.out]; omega), length_splice _ _ _ (by omega), hcs]
  have hxl' := HXl.out
  refine ⟨_, _, rfl, ⟨⟨by simp only [List.length_append, List.length_take, List.length_drop, HVl.out]; omega, .inr ⟨g, c, _, rfl, hg1, hL.blk, hnc, hc, by simpa using hlen, ?_⟩⟩, fun b hb => by injection hb with hb; subst hb; exact hL.blk.lt⟩, hL.only hg1 (by omega)⟩
  have hf := HFin.out
  rw [← hf, Nat.succ_mul]
end Go.Proofs.YtjmlcobbjpmjpaaGreatDoor
namespace Go.Proofs.YtjmlcobbjpmjpaaGreatDoor
open Go.RowKit

theorem wpList_growZeros {P : Program} {w : World} {ops : Array Oper} {rest : List Oper} {o : Oper} {a : Act} {Q : Exit → Act → World → Prop} (hgd : o.guard = none) (s x : Operand) (t tn : TypeId)
    (ho : o.op = .call { callee := .builtin .append, args := #[s, x], argTypes := #[t, tn] })
    (e : TypeId) (zv : Value) (size bytes : Nat) (ht : P.underlying t = some (.slice e)) (htn : P.underlying tn = some (.int .i64)) (hinfo : (P.info? e).map (fun i => (i.zero, i.size, i.bytes)) = some (some zv, size, bytes)) (hzs : zv.cells.size = size) (hsz : 0 < size) (hb : bytes ≤ 1000)
    (g i c : Nat) (hs : a.eval s = .slice (some ⟨g, 0, none⟩) i c) (k : Nat) (q : Int) (hx : a.eval x = .int .i64 q) (hq : q = (k : Int)) (hk : 0 < k) (hroom : c < i + k) (hsmall : i + k ≤ 10000000) (m : Nat) (hm : i + k = m)
    (olds : List Value) (hol : olds.length = i * size) (hold : ∀ j v, olds[j]? = some v → w.cell? ⟨g, j, none⟩ = some v)
    (h : ∀ w' G row, m ≤ G → G ≤ 9223372036854775807 → G ≤ maxLen → Blk w' w.heap.size e (List.toArray row) → row.take (i * size) = olds → row.length = G * size → Below w.heap.size w w' → w'.heap.size = w.heap.size + 1 → wpList P ops Q rest (a.put o.dst (.slice (some ⟨w.heap.size, 0, none⟩) m G)) w') : wpList P ops Q (o :: rest) a w := by
  subst hq
  subst hm
  obtain ⟨i0, hi, hz, hsize, hby⟩ := info_parts hinfo
  have hf : (Builtin.firstCells i0.size i (.slice (some ⟨g, 0, none⟩) i c)).run P w.drew = .ok olds.toArray w.drew := by
    rw [hsize]
    refine run_firstCells_some w.drew size i ⟨g, 0, none⟩ i c olds hol (fun j v hj => ?_)
    rw [add_plain, Nat.zero_add]
    exact hold j v hj
  have hbig : (i + k) * bytes ≤ 140737488355328 := by
    calc (i + k) * bytes ≤ 10000000 * 1000 := Nat.mul_le_mul hsmall hb
      _ ≤ 140737488355328 := by decide
  have hr : ∀ ty, _ := fun ty => Lib.run_append_grow_zeros w t tn ty e i0 zv .i64 .i64 ht htn hi hz (some ⟨g, 0, none⟩) i c olds hf k hk (by omega) hroom (by omega) (by
    rw [hby]
    calc k * bytes ≤ 10000000 * 1000 := Nat.mul_le_mul (by omega) hb
      _ ≤ 281474976710656 := by decide) (by rw [hby]; exact growslice_fits hroom hbig)
  refine Lib.wpList_append_run w hgd s x t tn ho _ _ hs hx _ _ (hr _) ?_
  have hge := grownCap_ge w (i + k) c e
  have hle := grownCap_le_maxLen w (i + k) c e (by unfold maxLen; omega)
  refine h _ _ (olds ++ (Builtin.zeroCells zv.cells k).toList ++ (Builtin.zeroCells zv.cells (grownCap w (i + k) c e - (i + k))).toList) hge (by unfold maxLen at hle; omega) hle ?_ ?_ ?_ ?_ ?_
  · have := Blk.new w.drew e (olds.toArray ++ Builtin.zeroCells zv.cells k ++ Builtin.zeroCells zv.cells (grownCap w (i + k) c e - (i + k)))
    have e9 : (olds ++ (Builtin.zeroCells zv.cells k).toList ++ (Builtin.zeroCells zv.cells (grownCap w (i + k) c e - (i + k))).toList).toArray = olds.toArray ++ Builtin.zeroCells zv.cells k ++ Builtin.zeroCells zv.cells (grownCap w (i + k) c e - (i + k)) := by
      apply Array.ext'
      simp only [Array.toList_append]
    rw [e9]
    exact this
  · rw [List.append_assoc, ← hol, List.take_left]
  · simp only [List.length_append, Array.length_toList, size_zeroCells, hzs, hol]
    rw [← Nat.add_mul, ← Nat.add_mul]
    congr 1
    omega
  · exact ⟨rfl, rfl, rfl, by simp, fun q hq => Below.heap_alloc w.drew _ q hq⟩
  · simp
end Go.Proofs.YtjmlcobbjpmjpaaGreatDoor
namespace Go.Proofs.YtjmlcobbjpmjpaaGreatDoor
open Go.RowKit

set_option maxHeartbeats 4000000 in
set_option maxRecDepth 100000 in
theorem insCl_grow (g n i vb lo hi : Nat) (xs vs : List Value) (w : World) (hxl : xs.length = n * 5) (hB : ∀ j u, xs[j]? = some u → w.cell? ⟨g, j, none⟩ = some u) (hg1 : lo ≤ g) (hg2 : g < hi) (hhi : hi ≤ w.heap.size) (hi' : i < n) (hn : n ≤ 1000000) (h1x : ∀ u ∈ xs, u.oneCell' = true) (hv : Blk w vb 48 vs.toArray) (hvl : vs.length = 5) (hvb : vb ≠ g) (h1v : ∀ u ∈ vs, u.oneCell' = true) :
    Calls Tryz.prog 93 #[.slice (some ⟨g, 0, none⟩) n n, .int .i64 i, .slice (some ⟨vb, 0, none⟩) 1 1] w fun e w' => ∃ A' c', e = .returned (.slice A' (n + 1) c') ∧ Sl w' lo w'.heap.size 48 5 A' (n + 1) c' (xs.take (i * 5) ++ vs ++ xs.drop (i * 5)) ∧ Only lo w.heap.size w w' := by
  have hvw : vb < w.heap.size := hv.lt
  obtain ⟨ys, hys⟩ : ∃ ys, ys = xs.drop (i * 5) := ⟨_, rfl⟩
  have hyl : ys.length = (n - i) * 5 := by rw [hys, List.length_drop]; omega
  have HY1 := Lib.hid (show ∀ u ∈ ys, u.oneCell' = true from fun u hu => h1x u (List.mem_of_mem_drop (by rw [hys] at hu; exact hu)))
  have HV1 := Lib.hid h1v
  have HYS := Lib.hid hys
  have HYL := Lib.hid hyl
  have HNe := Lib.hid hvb
  have HVl := Lib.hid hvl
  have HXl := Lib.hid hxl
  have HVb := Lib.hid hv
  obtain ⟨N, hN⟩ : ∃ N, N = w.heap.size := ⟨_, rfl⟩
  have HN := Lib.hid hN
  have hold := Lib.hid (show ∀ j u, (xs.take (i * 5))[j]? = some u → w.cell? ⟨g, j, none⟩ = some u from fun j u hu => by
    rw [List.getElem?_take] at hu
    split at hu
    · exact hB j u hu
    · cases hu)
  have HBs := Lib.hid (show ∀ j u, ys[j]? = some u → w.cell? ⟨g, i * 5 + j, none⟩ = some u from fun j u hu => by
    rw [hys, List.getElem?_drop] at hu
    exact hB _ u hu)
  have htl := Lib.hid (show (xs.take (i * 5)).length = i * 5 by rw [List.length_take]; omega)
  have hw1 : IntKind.i64.wrap ((i : Int) + 1) = (i : Int) + 1 := by rw [IntKind.wrap_i64]; omega
  have hw2 : IntKind.i64.wrap ((n : Int) + 1) = (n : Int) + 1 := by rw [IntKind.wrap_i64]; omega
  have hw3 : IntKind.i64.wrap ((n : Int) + 1 - (i : Int)) = (n : Int) + 1 - (i : Int) := by rw [IntKind.wrap_i64]; omega
  have hb1 : (0 : Int) ≤ (i : Int) + 1 := by omega
  have htn : ((i : Int) + 1).toNat = i + 1 := by omega
  have hz2 : ¬ ((i : Int) = (n : Int)) := by omega
  have hz3 : (n : Int) < (n : Int) + 1 := by omega
  have hb4 : ¬ (n = i) := by omega
  have hb5 : (i : Int) ≤ (n : Int) := by omega
  clear hB hv h1x h1v hys hvb hyl hvl hxl hN
  go_enter Tryz.func93, Tryz.ntmps93
  go_wp2_with (at_builtin; refine wpList_growZeros rfl _ _ 46 3 rfl 48 _ 5 48 Tryz.underlying46 Tryz.underlying3 info_cl rfl (by decide) (by decide) g i n rfl (n + 1 - i) _ rfl (by omega) (by omega) (by omega) (by omega) (n + 1) (by omega) (xs.take (i * 5)) htl.out hold.out ?_; intro w1 G row hR1 hG63 hR2 hR3 hR4 hR5 hR6 hR7; have HR1 := Lib.hid hR1; have HR2 := Lib.hid hR2; have HR3 := Lib.hid hR3; have HR4 := Lib.hid (And.intro hR4 hR5); have HR5 := Lib.hid (And.intro hR6 hR7); have hGi : ¬ (G = i) := (by omega); have hGj : ¬ (G = i + 1) := (by omega); clear hR2 hR3 hR4 hR5 hR6 hR7)
  have hvs := Lib.hid (show ∀ j u, vs[j]? = some u → w1.cell? ((⟨vb, 0, none⟩ : Addr).add j) = some u from fun j u hu => by
    rw [add_plain, HR5.out.1.cell (p := ⟨vb, 0 + j, none⟩) hvw, Nat.zero_add]
    refine (HVb.out.cell j).trans ?_
    simpa using hu)
  have hrun := run_copy_blk w1 46 46 3 48 5 w.heap.size (i * 5) (n + 1 - i) (G - i) ⟨vb, 0, none⟩ 1 1 row.toArray 48 vs Tryz.underlying46 iszCl HR3.out (by rw [HVl.out]; simp only [Nat.min_def]; split <;> omega) hvs.out (by have := HR4.out.2; have := HVl.out; simp; omega) HV1.out
  rw [hrun]
  clear hrun
  obtain ⟨w2, hw2'⟩ : ∃ y, w1.setRow w.heap.size (row.toArray.toList.take (i * 5) ++ vs ++ row.toArray.toList.drop (i * 5 + vs.length)).toArray = y := ⟨_, rfl⟩
  have L2 := Lib.hid (show Laid w.heap.size 48 (splice row (i * 5) vs) w1 w2 by
    rw [← hw2']
    have := laid_setRow HR3.out (splice row (i * 5) vs)
    simpa [splice] using this)
  rw [hw2']
  clear hw2'
  have hsrc := Lib.hid (show ∀ j u, ys[j]? = some u → w2.cell? ⟨g, i * 5 + j, none⟩ = some u from fun j u hu => by
    rw [World.cell?_of_block (L2.out.block g (by omega)), HR5.out.1.cell (p := ⟨g, i * 5 + j, none⟩) (by simp only; omega)]
    exact HBs.out j u hu)
  have hsl := Lib.hid (show (splice row (i * 5) vs).length = G * 5 by
    rw [length_splice _ _ _ (by have := HR4.out.2; have := HVl.out; omega)]
    exact HR4.out.2)
  go_wp2
  go_region_law (refine step_copyBlk rfl _ _ 46 46 rfl 48 5 Tryz.underlying46 iszCl w.heap.size ((i + 1) * 5) (n - i) (G - (i + 1)) ⟨g, i * 5, none⟩ (n - i) (n - i) (by simp [Act.eval, Act.put]) (by simp [Act.eval, Act.put]) (i * 5 + 5) (by omega) (splice row (i * 5) vs) 48 L2.out.blk ys (by have := HYL.out; simp only [Nat.min_self]; exact this) (fun j v hj => by rw [add_plain]; exact hsrc.out j v hj) (by have := HYL.out; have := hsl.out; omega) HY1.out ?_; intro w4 hw4)
  have HW4 := Lib.hid hw4
  clear hw4
  go_wp2
  go_ret
  have hL := HW4.out.drew
  rw [HYS.out] at hL
  have hlen : (splice (splice row (i * 5) vs) (i * 5 + 5) (xs.drop (i * 5))).length = G * 5 := by
    have hyl := HYL.out
    rw [HYS.out] at hyl
    rw [length_splice _ _ _ (by have := hsl.out; omega)]
    exact hsl.out
  have hxl' := HXl.out
  have hsz : w4.heap.size = w.heap.size + 1 := by rw [hL.size, L2.out.size]; exact HR5.out.2
  refine ⟨_, _, rfl, ⟨⟨by simp only [List.length_append, List.length_take, List.length_drop, HVl.out]; omega, .inr ⟨w.heap.size, G, _, rfl, by omega, hL.blk, HR1.out, HR2.out, by simpa using hlen, ?_⟩⟩, fun b hb => by injection hb with hb; subst hb; simp only; omega⟩, ?_⟩
  · have hf := splice_grow (row := row) (xs := xs) (vs := vs) (p := i * 5) (q := 5) (N := n * 5) HR4.out.1 HXl.out (by omega) HVl.out (by have := HR4.out.2; omega)
    rw [← hf, Nat.succ_mul]
  · have hT := (L2.out.trans hL)
    refine ⟨hT.os.trans HR5.out.1.os, hT.tape.trans HR5.out.1.tape, hT.output.trans HR5.out.1.output, by omega, fun k hk hd => ?_⟩
    rw [hT.block k (by omega)]
    exact HR5.out.1.block k hk
end Go.Proofs.YtjmlcobbjpmjpaaGreatDoor
namespace Go.Proofs.YtjmlcobbjpmjpaaGreatDoor
open Go.RowKit

set_option maxHeartbeats 2000000 in
set_option maxRecDepth 100000 in
theorem clone_any (b off n c : Nat) (l : List Cl) (B : Nat) (w : World) (h : Reads w B 5 (some ⟨b, off, none⟩) n (cls l)) (hB : B ≤ w.heap.size) (hn : n ≤ 1048576) :
    Calls Tryz.prog 94 #[.slice (some ⟨b, off, none⟩) n c] w fun e w' => ∃ A' c', e = .returned (.slice A' n c') ∧ Sl w' w.heap.size w'.heap.size 48 5 A' n c' (cls l) ∧ Below w.heap.size w w' := by
  have hl := Lib.hid (cls_len h)
  have hcells := Lib.hid (show ∀ j u, (cls l)[j]? = some u → (w.alloc (.cells #[] 48)).cell? ⟨b, off + j, none⟩ = some u from fun j u hu => by
    rcases Nat.eq_zero_or_pos n with h0 | h0
    · have : (cls l).length = 0 := by rw [cls_length, hl.out, h0]
      rw [List.length_eq_zero_iff.1 this] at hu; simp at hu
    · obtain ⟨b', off', e, _, hc⟩ := (h.on hB ((Below.refl _ _).alloc (Nat.le_refl _) _)).at_ h0
      injection e with e; injection e with e e'; subst e; subst e'
      exact hc j u hu)
  have acc0 := Lib.hid (Acc.made w 48 5)
  clear h
  have hnil := fun W : World => Lib.run_eql_slice_nil (P := Tryz.prog) W 46 48 (some ⟨b, off, none⟩) n c 0 0 Tryz.underlying46
  simp only [Option.isNone_some] at hnil
  go_enter Tryz.func94, Tryz.ntmps94
  go_wp2_with (at_builtin; refine wpList_accMany rfl _ _ 46 rfl 48 _ 5 48 Tryz.underlying46 info_cl rfl (by decide) (by decide) acc0.out (Nat.le_refl _) rfl b off n c (cls l) rfl (by rw [cls_length, hl.out]) hcells.out (cls_one l) (by omega) ?_; intro A2 d2 w9 hacc2; rw [Nat.zero_add]; rw [Nat.zero_add, List.nil_append] at hacc2; have HA2 := Lib.hid hacc2; clear hacc2)
  go_ret
  exact ⟨_, _, rfl, HA2.out.sl (Nat.le_refl _) (Nat.le_refl _), HA2.out.below (Nat.le_refl _) (Nat.le_refl _)⟩

set_option maxHeartbeats 2000000 in
theorem implExtendContract_any (A : Option Addr) (n c : Nat) (l : List Cl) (s : ByteArray) (d : Int) (B : Nat) (w : World) (h : Reads w B 5 A n (cls l)) (hB : B ≤ w.heap.size) (hn : n ≤ 1048576) (hsm : ∀ x ∈ l, x.small) (hgd : ∀ x ∈ l, x.good) (hs : s.size ≤ 1048576) (hd : I64 d) :
    Calls Tryz.prog 32 #[.slice A n c, .string s, .int .i64 d] w fun e w' => ∃ A' m c', e = .returned (.tuple #[.slice A' m c', .int .i64 (extF l s d).2]) ∧ Sl w' w.heap.size w'.heap.size 48 5 A' m c' (cls (extF l s d).1) ∧ Below w.heap.size w w' := by
  have hl := Lib.hid (cls_len h)
  have hcode : ∀ q, Calls Tryz.prog 100 #[.slice A n c, .string s, .bool q] w fun e w' => e = .returned (.tuple #[.int .i64 (namedF l s q).1, .int .i64 (namedF l s q).2]) ∧ Below w.heap.size w w' := fun q => clientCode_any A n c l s q B w h hB hn hsm hgd
  rcases hq : inR d 1 20000 with _ | _
  · have hz : (namedF l s false).2 ≠ 0 := by
      rcases h1 : okCls l with _ | _
      · rw [namedF_bad h1]; decide
      · rw [namedF_else h1]; decide
    have HO := Lib.hid (extF_bad hq hz)
    have hz' : ((namedF l s false).2 != 0) = true := by simp [hz]
    have HC := Lib.hid (hcode false)
    clear hcode hsm hgd hz
    go_enter Tryz.func32, Tryz.ntmps32
    go_wp2_with (first | (go_at_call 101; refine (within_any _ _ _ _).mono ?_; rintro e w2 ⟨rfl, rfl⟩))
    refine HC.out.mono ?_
    rintro e w1 ⟨rfl, b1⟩
    go_wp2
    go_ret2
    rw [HO.out]
    exact ⟨_, _, _, rfl, Sl.nil _ _ _ _ _, b1⟩
  · by_cases hz : (namedF l s true).2 = 0
    · obtain ⟨hok, i, x, hnm, hx⟩ := named_cases hz
      have hin : i < n := by have := (List.getElem?_eq_some_iff.1 hx).1; have := hl.out; omega
      have hto := (okCls_mem hok x (List.mem_of_getElem? hx)).2.2.2.1
      have hfr := (okCls_mem hok x (List.mem_of_getElem? hx)).2.2.1
      have hdr := inR_true.1 hq
      have hi0 : (0 : Int) ≤ i := by omega
      have hi1 : (i : Int) < n := by omega
      have HFar := Lib.hid (extF_far hq hnm hx)
      have HOk := Lib.hid (extF_ok hq hnm hx)
      have HX := Lib.hid hx
      have HC0 := hcode true
      rw [hnm] at HC0
      have HC := Lib.hid HC0
      clear hcode hsm hgd hz hnm hok HC0
      go_enter Tryz.func32, Tryz.ntmps32
      go_wp2_with (first | (go_at_call 101; refine (within_any _ _ _ _).mono ?_; rintro e w2 ⟨rfl, rfl⟩))
      refine HC.out.mono ?_
      rintro e w1 ⟨rfl, b1⟩
      obtain ⟨y, b, off, he, rfl, hb, c0, c1, c2, c3, c4⟩ := cl_at (h.on hB b1) hin
      obtain rfl : x = y := by rw [hx] at he; injection he
      have z1 := b1.size
      have H1 := Lib.hid b1
      have h' := h.on hB b1
      clear he hx h b1 hq c0 c1 c2 c4
      by_cases hfar : 20000 < x.to_ + d
      · have HO := Lib.hid (HFar.out hfar)
        go_wp2
        go_ret2
        rw [HO.out]
        exact ⟨_, _, _, rfl, Sl.nil _ _ _ _ _, H1.out⟩
      · have HO := Lib.hid (HOk.out (by omega))
        have hfar1 : decide (20000 < x.to_ + d) = false := decide_eq_false hfar
        go_wp2_with fail
        refine (clone_any b off n c l B _ h' (by omega) hn).mono ?_
        rintro e w2 ⟨A2, c2', rfl, s2, b2⟩
        clear h' c3
        obtain ⟨g, rfl, hg1, hg2, hg3⟩ := s2.lt (by omega)
        obtain ⟨e0, e1, e2, e3, e4⟩ := cls_get HX.out
        have q3 := (s2.cellAt (i * 5 + 3) (by omega)).trans e3
        have hf3 := s2.frozenAt (i * 5 + 3)
        have HS := Lib.hid (s2.set_ (i * 5 + 3) (.int .i64 (x.to_ + d)))
        have HB2 := Lib.hid ((bnext H1.out b2 (Nat.le_refl _)).setCell (p := ⟨g, i * 5 + 3, none⟩) (by simp only; omega) (.int .i64 (x.to_ + d)))
        have hz2 := b2.size
        clear s2 b2 e0 e1 e2 e3 e4
        go_wp2
        go_ret2
        rw [HO.out, cls_set3 _ HX.out]
        exact ⟨_, _, _, rfl, HS.out.wide z1 (by simp), HB2.out⟩
    · have HO := Lib.hid (extF_bad hq hz)
      have hz' : ((namedF l s true).2 != 0) = true := by simp [hz]
      have HC := Lib.hid (hcode true)
      clear hcode hsm hgd hz
      go_enter Tryz.func32, Tryz.ntmps32
      go_wp2_with (first | (go_at_call 101; refine (within_any _ _ _ _).mono ?_; rintro e w2 ⟨rfl, rfl⟩))
      refine HC.out.mono ?_
      rintro e w1 ⟨rfl, b1⟩
      go_wp2
      go_ret2
      rw [HO.out]
      exact ⟨_, _, _, rfl, Sl.nil _ _ _ _ _, b1⟩
end Go.Proofs.YtjmlcobbjpmjpaaGreatDoor
namespace Go.Proofs.YtjmlcobbjpmjpaaGreatDoor
open Go.RowKit

theorem cell_only {lo hi : Nat} {w w' : World} {p : Addr} {v : Value} (k : Only lo hi w w') (hp : p.block < lo) (h : w.cell? p = some v) : w'.cell? p = some v :=
  (World.cell?_of_block (k.block p.block (World.block_lt_of_cell? w _ h) (.inl hp))).trans h
set_option maxHeartbeats 2000000 in
set_option maxRecDepth 100000 in
theorem insCl_nil (vb : Nat) (vs : List Value) (w : World) (hv : Blk w vb 48 vs.toArray) (hvl : vs.length = 5) (h1v : ∀ u ∈ vs, u.oneCell' = true) :
    Calls Tryz.prog 93 #[.slice none 0 0, .int .i64 0, .slice (some ⟨vb, 0, none⟩) 1 1] w fun e w' => ∃ A' c', e = .returned (.slice A' 1 c') ∧ Sl w' w.heap.size w'.heap.size 48 5 A' 1 c' vs ∧ Only w.heap.size w.heap.size w w' := by
  have acc0 := Lib.hid (Acc.nil w 48 5)
  have hcells := Lib.hid (show ∀ j u, vs[j]? = some u → w.cell? ⟨vb, 0 + j, none⟩ = some u from fun j u hu => by rw [Nat.zero_add, hv.cell]; simpa using hu)
  have HV1 := Lib.hid h1v
  clear hv h1v
  go_enter Tryz.func93, Tryz.ntmps93
  go_wp2_with (at_builtin; refine wpList_accMany rfl _ _ 46 rfl 48 _ 5 48 Tryz.underlying46 info_cl rfl (by decide) (by decide) acc0.out (Nat.le_refl _) rfl vb 0 1 1 vs rfl (by omega) hcells.out HV1.out (by omega) ?_; intro A2 d2 w9 hacc2; rw [Nat.zero_add]; rw [Nat.zero_add, List.nil_append] at hacc2; have HA2 := Lib.hid hacc2; clear hacc2)
  go_ret
  exact ⟨_, _, rfl, HA2.out.sl (Nat.le_refl _) (Nat.le_refl _), ⟨HA2.out.os, HA2.out.tape, HA2.out.output, HA2.out.size, fun k hk hd => HA2.out.block k hk (by omega)⟩⟩
theorem insCl_any (A : Option Addr) (n c i vb lo hi : Nat) (xs vs : List Value) (w : World) (h : Sl w lo hi 48 5 A n c xs) (hlo : lo ≤ w.heap.size) (hhi : hi ≤ w.heap.size) (hi' : i ≤ n) (hn : n ≤ 1000000) (h1x : ∀ u ∈ xs, u.oneCell' = true) (hv : Blk w vb 48 vs.toArray) (hvl : vs.length = 5) (hvb : vb < lo ∨ hi ≤ vb) (h1v : ∀ u ∈ vs, u.oneCell' = true) :
    Calls Tryz.prog 93 #[.slice A n c, .int .i64 i, .slice (some ⟨vb, 0, none⟩) 1 1] w fun e w' => ∃ A' c', e = .returned (.slice A' (n + 1) c') ∧ Sl w' lo w'.heap.size 48 5 A' (n + 1) c' (xs.take (i * 5) ++ vs ++ xs.drop (i * 5)) ∧ Only lo w.heap.size w w' := by
  have hxl := h.len
  rcases h.1.2 with ⟨h', _⟩ | ⟨g, cap, cur, h', hg1, hg, hnc, hcm, hcs, ht⟩
  · injection h' with e1 e2 e3
    subst e1 e2 e3
    obtain rfl : i = 0 := by omega
    have hx0 : xs = [] := List.eq_nil_of_length_eq_zero (by omega)
    subst hx0
    refine (insCl_nil vb vs w hv hvl h1v).mono ?_
    rintro e w' ⟨A', c', rfl, s, o⟩
    exact ⟨A', c', rfl, by simpa using s.wide hlo (Nat.le_refl _), o.wide hlo (Nat.le_refl _)⟩
  · injection h' with e1 e2 e3
    subst e1 e3
    have hg2 : g < hi := h.2 _ rfl
    rcases Nat.lt_or_ge i n with hlt | hge
    · by_cases hroom : n + 1 ≤ c
      · exact insCl_shift g n c i vb lo hi cur.toList xs vs w hg (by simpa using hcs) ht hg1 hg2 hhi hlt hroom hn hcm h1x hv hvl (by omega) h1v
      · obtain rfl : c = n := by omega
        exact insCl_grow g c i vb lo hi xs vs w hxl (fun j u hu => by
          have hj : j < c * 5 := by rw [← hxl]; exact (List.getElem?_eq_some_iff.1 hu).1
          exact (h.cellAt j hj).trans hu) hg1 hg2 hhi hlt hn h1x hv hvl (by omega) h1v
    · obtain rfl : i = n := by omega
      rw [List.take_of_length_le (by omega), List.drop_eq_nil_of_le (by omega), List.append_nil]
      exact insCl_end g i c vb lo hi xs vs w h hhi hn (by unfold maxLen at hcm; omega) hv hvl h1v

theorem cl1 (x : Cl) : ∀ u ∈ cellsCl x, u.oneCell' = true := fun u hu => cls_one [x] u (by simpa [cls] using hu)

set_option maxHeartbeats 4000000 in
set_option maxRecDepth 100000 in
theorem implAddClient_any (g n c : Nat) (l : List Cl) (x : Cl) (B : Nat) (w : World) (h : Reads w B 5 (some ⟨g, 0, none⟩) n (cls l)) (hB : B ≤ w.heap.size) (hn : n ≤ 1048576) (hsm : ∀ x ∈ l, x.small) (hgd : ∀ x ∈ l, x.good) (hx : x.good) (hxs : x.small) :
    Calls Tryz.prog 29 #[.slice (some ⟨g, 0, none⟩) n c, .agg #[.string x.name, .int .i64 x.station, .int .i64 x.from_, .int .i64 x.to_, .int .i64 x.quota]] w fun e w' => ∃ A' m c', e = .returned (.tuple #[.slice A' m c', .int .i64 (addF l x).2]) ∧ Sl w' w.heap.size w'.heap.size 48 5 A' m c' (cls (addF l x).1) ∧ Below w.heap.size w w' := by
  have hl := Lib.hid (cls_len h)
  rcases h1 : okCls l with _ | _
  · have HO := Lib.hid (addF_bad (x := x) h1)
    go_enter Tryz.func29, Tryz.ntmps29
    go_wp2_with fail
    obtain ⟨wq, hwq⟩ : ∃ y, w.alloc (.cells #[.string x.name, .int .i64 x.station, .int .i64 x.from_, .int .i64 x.to_, .int .i64 x.quota] 48) = y := ⟨_, rfl⟩
    rw [hwq]
    have yq : Blk wq w.heap.size 48 #[.string x.name, .int .i64 x.station, .int .i64 x.from_, .int .i64 x.to_, .int .i64 x.quota] := by rw [← hwq]; exact Blk.new _ _ _
    have bq : Below w.heap.size w wq := by rw [← hwq]; exact (Below.refl _ _).alloc (Nat.le_refl _) _
    have zq := bq.size
    clear hwq
    refine (implValidClients_any _ n c l B wq (h.on hB bq) (by omega) hn hsm hgd).mono ?_
    rintro e w1 ⟨rfl, b1⟩
    have z1 := b1.size
    have y1 := yq.on b1
    have H1 := Lib.hid (bnext bq b1 (Nat.le_refl _))
    have h1' := (h.on hB bq).on (by omega) b1
    clear b1 yq bq
    go_wp2
    go_ret2
    rw [HO.out]
    exact ⟨_, _, _, rfl, Sl.nil _ _ _ _ _, H1.out⟩
  · rcases h2 : okCl x with _ | _
    · have HO := Lib.hid (addF_range h1 h2)
      go_enter Tryz.func29, Tryz.ntmps29
      go_wp2_with fail
      obtain ⟨wq, hwq⟩ : ∃ y, w.alloc (.cells #[.string x.name, .int .i64 x.station, .int .i64 x.from_, .int .i64 x.to_, .int .i64 x.quota] 48) = y := ⟨_, rfl⟩
      rw [hwq]
      have yq : Blk wq w.heap.size 48 #[.string x.name, .int .i64 x.station, .int .i64 x.from_, .int .i64 x.to_, .int .i64 x.quota] := by rw [← hwq]; exact Blk.new _ _ _
      have bq : Below w.heap.size w wq := by rw [← hwq]; exact (Below.refl _ _).alloc (Nat.le_refl _) _
      have zq := bq.size
      clear hwq
      refine (implValidClients_any _ n c l B wq (h.on hB bq) (by omega) hn hsm hgd).mono ?_
      rintro e w1 ⟨rfl, b1⟩
      have z1 := b1.size
      have y1 := yq.on b1
      have H1 := Lib.hid (bnext bq b1 (Nat.le_refl _))
      have h1' := (h.on hB bq).on (by omega) b1
      clear b1 yq bq
      have q0 : w1.cell? ⟨w.heap.size, 0, none⟩ = some (.string x.name) := y1.cellAt 0 (by simp)
      have q1 : w1.cell? ⟨w.heap.size, 1, none⟩ = some (.int .i64 x.station) := y1.cellAt 1 (by simp)
      have q2 : w1.cell? ⟨w.heap.size, 2, none⟩ = some (.int .i64 x.from_) := y1.cellAt 2 (by simp)
      have q3 : w1.cell? ⟨w.heap.size, 3, none⟩ = some (.int .i64 x.to_) := y1.cellAt 3 (by simp)
      have q4 : w1.cell? ⟨w.heap.size, 4, none⟩ = some (.int .i64 x.quota) := y1.cellAt 4 (by simp)
      go_wp2_with fail
      refine (validClient_any x _ hx.1).mono ?_
      rintro e w2 ⟨rfl, b2⟩
      have z2 := b2.size
      have y2 := y1.on b2
      have H2 := Lib.hid (bnext H1.out b2 (Nat.le_refl _))
      have h2' := h1'.on (by omega) b2
      clear b2 y1 q0 q1 q2 q3 q4 h1'
      go_wp2
      go_ret2
      rw [HO.out]
      exact ⟨_, _, _, rfl, Sl.nil _ _ _ _ _, H2.out⟩
    · have HK := Lib.hid (fun hp => addF_known h1 h2 hp)
      have HFu := Lib.hid (fun hp hl => addF_full h1 h2 hp hl)
      have HOk := Lib.hid (fun hp hl i (hi : PlaceAt l x.name i) => addF_ok h1 h2 hp hl hi)
      go_enter Tryz.func29, Tryz.ntmps29
      go_wp2_with fail
      obtain ⟨wq, hwq⟩ : ∃ y, w.alloc (.cells #[.string x.name, .int .i64 x.station, .int .i64 x.from_, .int .i64 x.to_, .int .i64 x.quota] 48) = y := ⟨_, rfl⟩
      rw [hwq]
      have yq : Blk wq w.heap.size 48 #[.string x.name, .int .i64 x.station, .int .i64 x.from_, .int .i64 x.to_, .int .i64 x.quota] := by rw [← hwq]; exact Blk.new _ _ _
      have bq : Below w.heap.size w wq := by rw [← hwq]; exact (Below.refl _ _).alloc (Nat.le_refl _) _
      have zq := bq.size
      clear hwq
      refine (implValidClients_any _ n c l B wq (h.on hB bq) (by omega) hn hsm hgd).mono ?_
      rintro e w1 ⟨rfl, b1⟩
      have z1 := b1.size
      have y1 := yq.on b1
      have H1 := Lib.hid (bnext bq b1 (Nat.le_refl _))
      have h1' := (h.on hB bq).on (by omega) b1
      clear b1 yq bq
      have q0 : w1.cell? ⟨w.heap.size, 0, none⟩ = some (.string x.name) := y1.cellAt 0 (by simp)
      have q1 : w1.cell? ⟨w.heap.size, 1, none⟩ = some (.int .i64 x.station) := y1.cellAt 1 (by simp)
      have q2 : w1.cell? ⟨w.heap.size, 2, none⟩ = some (.int .i64 x.from_) := y1.cellAt 2 (by simp)
      have q3 : w1.cell? ⟨w.heap.size, 3, none⟩ = some (.int .i64 x.to_) := y1.cellAt 3 (by simp)
      have q4 : w1.cell? ⟨w.heap.size, 4, none⟩ = some (.int .i64 x.quota) := y1.cellAt 4 (by simp)
      go_wp2_with fail
      refine (validClient_any x _ hx.1).mono ?_
      rintro e w2 ⟨rfl, b2⟩
      have z2 := b2.size
      have y2 := y1.on b2
      have H2 := Lib.hid (bnext H1.out b2 (Nat.le_refl _))
      have h2' := h1'.on (by omega) b2
      clear b2 y1 q0 q1 q2 q3 q4 h1'
      have q0 : w2.cell? ⟨w.heap.size, 0, none⟩ = some (.string x.name) := y2.cellAt 0 (by simp)
      have q1 : w2.cell? ⟨w.heap.size, 1, none⟩ = some (.int .i64 x.station) := y2.cellAt 1 (by simp)
      have q2 : w2.cell? ⟨w.heap.size, 2, none⟩ = some (.int .i64 x.from_) := y2.cellAt 2 (by simp)
      have q3 : w2.cell? ⟨w.heap.size, 3, none⟩ = some (.int .i64 x.to_) := y2.cellAt 3 (by simp)
      have q4 : w2.cell? ⟨w.heap.size, 4, none⟩ = some (.int .i64 x.quota) := y2.cellAt 4 (by simp)
      go_wp2_with fail
      refine (clientPlace_any _ n c l x.name B _ h2' (by omega) hn h1).mono ?_
      rintro e w3 ⟨i, hp, rfl, b3⟩
      have z3 := b3.size
      have y3 := y2.on b3
      have H3 := Lib.hid (bnext H2.out b3 (Nat.le_refl _))
      have h3' := h2'.on (by omega) b3
      clear b3 y2 q0 q1 q2 q3 q4 h2'
      rcases hf : foundAt l x.name i with _ | _
      · have hq := placeAt_lost h1 hp hf
        have hq1 : placeOf l x.name < 0 := by omega
        have hll := hl.out
        have hpl := hp.1
        by_cases hfull : n = 30
        · have HO := Lib.hid (HFu.out hq1 (by omega))
          have hf30 : ((n : Int) == 30) = true := by simp; omega
          clear hq hq1 hp hll hpl
          subst hfull
          go_wp2
          go_ret2
          rw [HO.out]
          exact ⟨_, _, _, rfl, Sl.nil _ _ _ _ _, H3.out⟩
        · have hle : n ≤ 29 := by
            have := okCls_len h1
            omega
          have HO := Lib.hid (HOk.out hq1 (by omega) i hp)
          have hf30 : ((n : Int) == 30) = false := by simp; omega
          have hin : i ≤ n := by omega
          have q0 : w3.cell? ⟨w.heap.size, 0, none⟩ = some (.string x.name) := y3.cellAt 0 (by simp)
          have q1 : w3.cell? ⟨w.heap.size, 1, none⟩ = some (.int .i64 x.station) := y3.cellAt 1 (by simp)
          have q2 : w3.cell? ⟨w.heap.size, 2, none⟩ = some (.int .i64 x.from_) := y3.cellAt 2 (by simp)
          have q3 : w3.cell? ⟨w.heap.size, 3, none⟩ = some (.int .i64 x.to_) := y3.cellAt 3 (by simp)
          have q4 : w3.cell? ⟨w.heap.size, 4, none⟩ = some (.int .i64 x.quota) := y3.cellAt 4 (by simp)
          have h3 := Lib.hid h3'
          have hw3 := Lib.hid (show w.heap.size < w3.heap.size from World.block_lt_of_cell? w3 _ q0)
          have hB3 : B ≤ w3.heap.size := by omega
          clear hq hq1 hp hll hpl y3 h3' h
          go_wp2_with fail
          have hw03 : w.heap.size ≤ w3.heap.size := by omega
          refine wp_region_any (by kernel_rfl) ?_
          try (change wpAny _ _ _ _ _ _ _ (World.drew _))
          refine wpAny_take (i := 0) (v := ?_) rfl (by kernel_rfl) (by kernel_rfl) (by kernel_rfl) (fun _ _ _ h => h) (Or.inl ⟨by kernel_rfl, ?_⟩) ?_
          rotate_left 1
          · intro w; go_simp; try with_reducible rfl
          try simp only [Act.put, List.getElem_toArray, List.getElem_cons_succ, List.getElem_cons_zero, List.setIfInBounds_toArray, List.set_cons_zero, List.set_cons_succ]
          refine wpAny_take (i := 2) (v := ?_) rfl (by kernel_rfl) (by kernel_rfl) (by kernel_rfl) (fun _ _ _ h => h) (Or.inl ⟨by kernel_rfl, ?_⟩) ?_
          rotate_left 1
          · intro w; go_simp; try with_reducible rfl
          try simp only [Act.put, List.getElem_toArray, List.getElem_cons_succ, List.getElem_cons_zero, List.setIfInBounds_toArray, List.set_cons_zero, List.set_cons_succ]
          refine wpAny_ready (rs := [1, 3]) (by kernel_rfl) (by simp) (AllReady.cons rfl (fun K hK => ?_) (AllReady.cons rfl (fun K hK => ?_) AllReady.nil))
          · go_simp
            refine (clone_any g 0 n c l B _ (h3.out.on hB3 ((Below.refl w3.heap.size w3).drew)) (Nat.le_trans hB3 ((Below.refl w3.heap.size w3).drew).size) (by omega)).mono ?_
            rintro e w4 ⟨A4, c4, rfl, sA, bA⟩
            have r0 : w4.cell? ⟨w.heap.size, 0, none⟩ = some (.string x.name) := cell_on bA q0
            have r1 : w4.cell? ⟨w.heap.size, 1, none⟩ = some (.int .i64 x.station) := cell_on bA q1
            have r2 : w4.cell? ⟨w.heap.size, 2, none⟩ = some (.int .i64 x.from_) := cell_on bA q2
            have r3 : w4.cell? ⟨w.heap.size, 3, none⟩ = some (.int .i64 x.to_) := cell_on bA q3
            have r4 : w4.cell? ⟨w.heap.size, 4, none⟩ = some (.int .i64 x.quota) := cell_on bA q4
            go_wp2
            try simp only [Act.put, List.getElem_toArray, List.getElem_cons_succ, List.getElem_cons_zero, List.setIfInBounds_toArray, List.set_cons_zero, List.set_cons_succ]
            refine wpAny_ready (rs := [3]) (by kernel_rfl) (by simp) (AllReady.cons rfl (fun K hK => ?_) AllReady.nil)
            go_simp
            refine hK _ _ ?_
            clear hK K
            try simp only [Act.put, List.getElem_toArray, List.getElem_cons_succ, List.getElem_cons_zero, List.setIfInBounds_toArray, List.set_cons_zero, List.set_cons_succ]
            refine wpAny_ready (rs := [4]) (by kernel_rfl) (by simp) (AllReady.cons rfl (fun K hK => ?_) AllReady.nil)
            go_simp
            refine hK _ _ ?_
            clear hK K
            try simp only [Act.put, List.getElem_toArray, List.getElem_cons_succ, List.getElem_cons_zero, List.setIfInBounds_toArray, List.set_cons_zero, List.set_cons_succ]
            refine wpAny_ready (rs := [5]) (by kernel_rfl) (by simp) (AllReady.cons rfl (fun K hK => ?_) AllReady.nil)
            go_simp
            refine (insCl_any A4 n c4 i _ _ _ (cls l) (cellsCl x) _ (sA.on ((Below.refl _ _).alloc (Nat.le_refl _) _)) (Nat.le_trans bA.size (by simp)) (by simp) hin (by omega) (cls_one l) (Blk.new _ _ _) rfl (.inr (Nat.le_refl _)) (cl1 x)).mono ?_
            rintro e w5 ⟨A5, c5, rfl, sR, bI⟩
            have HR := Lib.hid (And.intro (sR.wide (Nat.le_trans hw03 ((Below.refl w3.heap.size w3).drew).size) (Nat.le_refl _)) (bonly ((bnext (bnext H3.out ((Below.refl w3.heap.size w3).drew) (Nat.le_refl _)) bA (Nat.le_refl _)).alloc (Nat.le_trans hw03 (Nat.le_trans ((Below.refl w3.heap.size w3).drew).size bA.size)) _) bI (Nat.le_trans hw03 ((Below.refl w3.heap.size w3).drew).size) (Nat.le_refl _)))
            clear sR bI sA bA
            go_wp2
            try simp only [Act.put, List.getElem_toArray, List.getElem_cons_succ, List.getElem_cons_zero, List.setIfInBounds_toArray, List.set_cons_zero, List.set_cons_succ]
            refine wpAny_take (i := 6) (v := ?_) rfl (by kernel_rfl) (by kernel_rfl) (by kernel_rfl) (fun _ _ _ h => h) (Or.inl ⟨by kernel_rfl, ?_⟩) ?_
            rotate_left 1
            · intro w; go_simp; try with_reducible rfl
            try simp only [Act.put, List.getElem_toArray, List.getElem_cons_succ, List.getElem_cons_zero, List.setIfInBounds_toArray, List.set_cons_zero, List.set_cons_succ]
            refine wpAny_take (i := 7) (v := ?_) rfl (by kernel_rfl) (by kernel_rfl) (by kernel_rfl) (fun _ _ _ h => h) (Or.inl ⟨by kernel_rfl, ?_⟩) ?_
            rotate_left 1
            · intro w; go_simp; try with_reducible rfl
            try simp only [Act.put, List.getElem_toArray, List.getElem_cons_succ, List.getElem_cons_zero, List.setIfInBounds_toArray, List.set_cons_zero, List.set_cons_succ]
            refine wpAny_done (by kernel_rfl) ?_ _
            go_wp2
            go_ret2
            rw [HO.out, cls_ins]
            exact ⟨_, _, _, rfl, HR.out.1, HR.out.2⟩
          · go_simp
            refine hK _ _ ?_
            clear hK K
            try simp only [Act.put, List.getElem_toArray, List.getElem_cons_succ, List.getElem_cons_zero, List.setIfInBounds_toArray, List.set_cons_zero, List.set_cons_succ]
            refine wpAny_ready (rs := [1, 4]) (by kernel_rfl) (by simp) (AllReady.cons rfl (fun K hK => ?_) (AllReady.cons rfl (fun K hK => ?_) AllReady.nil))
            · go_simp
              refine (clone_any g 0 n c l B _ (h3.out.on hB3 ((Below.refl w3.heap.size w3).drew)) (Nat.le_trans hB3 ((Below.refl w3.heap.size w3).drew).size) (by omega)).mono ?_
              rintro e w4 ⟨A4, c4, rfl, sA, bA⟩
              go_wp2
              try simp only [Act.put, List.getElem_toArray, List.getElem_cons_succ, List.getElem_cons_zero, List.setIfInBounds_toArray, List.set_cons_zero, List.set_cons_succ]
              refine wpAny_ready (rs := [4]) (by kernel_rfl) (by simp) (AllReady.cons rfl (fun K hK => ?_) AllReady.nil)
              go_simp
              refine hK _ _ ?_
              clear hK K
              try simp only [Act.put, List.getElem_toArray, List.getElem_cons_succ, List.getElem_cons_zero, List.setIfInBounds_toArray, List.set_cons_zero, List.set_cons_succ]
              refine wpAny_ready (rs := [5]) (by kernel_rfl) (by simp) (AllReady.cons rfl (fun K hK => ?_) AllReady.nil)
              go_simp
              refine (insCl_any A4 n c4 i _ _ _ (cls l) (cellsCl x) _ (sA.on ((Below.refl _ _).alloc (Nat.le_refl _) _)) (Nat.le_trans bA.size (by simp)) (by simp) hin (by omega) (cls_one l) (Blk.new _ _ _) rfl (.inr (Nat.le_refl _)) (cl1 x)).mono ?_
              rintro e w5 ⟨A5, c5, rfl, sR, bI⟩
              have HR := Lib.hid (And.intro (sR.wide (Nat.le_trans hw03 ((Below.refl w3.heap.size w3).drew).size) (Nat.le_refl _)) (bonly ((bnext (bnext H3.out ((Below.refl w3.heap.size w3).drew) (Nat.le_refl _)) bA (Nat.le_refl _)).alloc (Nat.le_trans hw03 (Nat.le_trans ((Below.refl w3.heap.size w3).drew).size bA.size)) _) bI (Nat.le_trans hw03 ((Below.refl w3.heap.size w3).drew).size) (Nat.le_refl _)))
              clear sR bI sA bA
              go_wp2
              try simp only [Act.put, List.getElem_toArray, List.getElem_cons_succ, List.getElem_cons_zero, List.setIfInBounds_toArray, List.set_cons_zero, List.set_cons_succ]
              refine wpAny_take (i := 6) (v := ?_) rfl (by kernel_rfl) (by kernel_rfl) (by kernel_rfl) (fun _ _ _ h => h) (Or.inl ⟨by kernel_rfl, ?_⟩) ?_
              rotate_left 1
              · intro w; go_simp; try with_reducible rfl
              try simp only [Act.put, List.getElem_toArray, List.getElem_cons_succ, List.getElem_cons_zero, List.setIfInBounds_toArray, List.set_cons_zero, List.set_cons_succ]
              refine wpAny_take (i := 7) (v := ?_) rfl (by kernel_rfl) (by kernel_rfl) (by kernel_rfl) (fun _ _ _ h => h) (Or.inl ⟨by kernel_rfl, ?_⟩) ?_
              rotate_left 1
              · intro w; go_simp; try with_reducible rfl
              try simp only [Act.put, List.getElem_toArray, List.getElem_cons_succ, List.getElem_cons_zero, List.setIfInBounds_toArray, List.set_cons_zero, List.set_cons_succ]
              refine wpAny_done (by kernel_rfl) ?_ _
              go_wp2
              go_ret2
              rw [HO.out, cls_ins]
              exact ⟨_, _, _, rfl, HR.out.1, HR.out.2⟩
            · go_simp
              refine hK _ _ ?_
              clear hK K
              try simp only [Act.put, List.getElem_toArray, List.getElem_cons_succ, List.getElem_cons_zero, List.setIfInBounds_toArray, List.set_cons_zero, List.set_cons_succ]
              refine wpAny_ready (rs := [1]) (by kernel_rfl) (by simp) (AllReady.cons rfl (fun K hK => ?_) AllReady.nil)
              go_simp
              refine (clone_any g 0 n c l B _ (h3.out.on hB3 ((Below.refl w3.heap.size w3).drew.alloc (Nat.le_refl _) _)) (Nat.le_trans hB3 ((Below.refl w3.heap.size w3).drew.alloc (Nat.le_refl _) _).size) (by omega)).mono ?_
              rintro e w4 ⟨A4, c4, rfl, sA, bA⟩
              go_wp2
              try simp only [Act.put, List.getElem_toArray, List.getElem_cons_succ, List.getElem_cons_zero, List.setIfInBounds_toArray, List.set_cons_zero, List.set_cons_succ]
              refine wpAny_ready (rs := [5]) (by kernel_rfl) (by simp) (AllReady.cons rfl (fun K hK => ?_) AllReady.nil)
              go_simp
              refine (insCl_any A4 n c4 i _ _ _ (cls l) (cellsCl x) _ sA bA.size (Nat.le_refl _) hin (by omega) (cls_one l) (Blk.on (Blk.new _ _ _) bA) rfl (.inl (by simp)) (cl1 x)).mono ?_
              rintro e w5 ⟨A5, c5, rfl, sR, bI⟩
              have HR := Lib.hid (And.intro (sR.wide (Nat.le_trans hw03 ((Below.refl w3.heap.size w3).drew.alloc (Nat.le_refl _) _).size) (Nat.le_refl _)) (bonly (bnext (bnext H3.out ((Below.refl w3.heap.size w3).drew.alloc (Nat.le_refl _) _) (Nat.le_refl _)) bA (Nat.le_refl _)) bI (Nat.le_trans hw03 ((Below.refl w3.heap.size w3).drew.alloc (Nat.le_refl _) _).size) (Nat.le_refl _)))
              clear sR bI sA bA
              go_wp2
              try simp only [Act.put, List.getElem_toArray, List.getElem_cons_succ, List.getElem_cons_zero, List.setIfInBounds_toArray, List.set_cons_zero, List.set_cons_succ]
              refine wpAny_take (i := 6) (v := ?_) rfl (by kernel_rfl) (by kernel_rfl) (by kernel_rfl) (fun _ _ _ h => h) (Or.inl ⟨by kernel_rfl, ?_⟩) ?_
              rotate_left 1
              · intro w; go_simp; try with_reducible rfl
              try simp only [Act.put, List.getElem_toArray, List.getElem_cons_succ, List.getElem_cons_zero, List.setIfInBounds_toArray, List.set_cons_zero, List.set_cons_succ]
              refine wpAny_take (i := 7) (v := ?_) rfl (by kernel_rfl) (by kernel_rfl) (by kernel_rfl) (fun _ _ _ h => h) (Or.inl ⟨by kernel_rfl, ?_⟩) ?_
              rotate_left 1
              · intro w; go_simp; try with_reducible rfl
              try simp only [Act.put, List.getElem_toArray, List.getElem_cons_succ, List.getElem_cons_zero, List.setIfInBounds_toArray, List.set_cons_zero, List.set_cons_succ]
              refine wpAny_done (by kernel_rfl) ?_ _
              go_wp2
              go_ret2
              rw [HO.out, cls_ins]
              exact ⟨_, _, _, rfl, HR.out.1, HR.out.2⟩
      · have hq := placeAt_found hp hf
        have HO := Lib.hid (HK.out (by omega))
        clear hq hp
        go_wp2
        go_ret2
        rw [HO.out]
        exact ⟨_, _, _, rfl, Sl.nil _ _ _ _ _, H3.out⟩
end Go.Proofs.YtjmlcobbjpmjpaaGreatDoor
namespace Go.Proofs.YtjmlcobbjpmjpaaGreatDoor
open Go.RowKit
theorem Reads.src {w : World} {B size n g : Nat} {xs : List Value} (h : Reads w B size (some ⟨g, 0, none⟩) n xs) : ∀ j u, xs[j]? = some u → w.cell? ⟨g, j, none⟩ = some u := fun j u hu => by
  rcases Nat.eq_zero_or_pos n with h0 | h0
  · have := h.1
    rw [h0, Nat.zero_mul] at this
    rw [List.length_eq_zero_iff.1 this] at hu; simp at hu
  · obtain ⟨b, off, e, _, hc⟩ := h.at_ h0
    injection e with e; injection e with e e'; subst e; subst e'
    have := hc j u hu
    rwa [Nat.zero_add] at this
theorem Reads.drewN {w : World} {B size n : Nat} {A : Option Addr} {xs : List Value} (h : Reads w B size A n xs) (m : Nat) : Reads (w.drewN m) B size A n xs := h.keep fun _ _ => rfl
end Go.Proofs.YtjmlcobbjpmjpaaGreatDoor
namespace Go.Proofs.YtjmlcobbjpmjpaaGreatDoor
open Go.RowKit

theorem cl1' (x : Cl) : ∀ u ∈ cellsCl x, u.oneCell' = true := fun u hu => cls_one [x] u (by simpa [cls] using hu)

set_option maxHeartbeats 4000000 in
set_option maxRecDepth 100000 in
theorem specAddClient_any (g n c : Nat) (l : List Cl) (x : Cl) (B : Nat) (w : World) (h : Reads w B 5 (some ⟨g, 0, none⟩) n (cls l)) (hB : B ≤ w.heap.size) (hn : n ≤ 1048576) (hsm : ∀ x ∈ l, x.small) (hgd : ∀ x ∈ l, x.good) (hx : x.good) (hxs : x.small) (hnc : n ≤ c := by omega) :
    Calls Tryz.prog 30 #[.slice (some ⟨g, 0, none⟩) n c, .agg #[.string x.name, .int .i64 x.station, .int .i64 x.from_, .int .i64 x.to_, .int .i64 x.quota]] w fun e w' => ∃ A' m c', e = .returned (.tuple #[.slice A' m c', .int .i64 (addF l x).2]) ∧ Sl w' w.heap.size w'.heap.size 48 5 A' m c' (cls (addF l x).1) ∧ Below w.heap.size w w' := by
  have hl := Lib.hid (cls_len h)
  rcases h1 : okCls l with _ | _
  · have HO := Lib.hid (addF_bad (x := x) h1)
    go_enter Tryz.func30, Tryz.ntmps30
    go_wp2_with fail
    obtain ⟨wq, hwq⟩ : ∃ y, w.alloc (.cells #[.string x.name, .int .i64 x.station, .int .i64 x.from_, .int .i64 x.to_, .int .i64 x.quota] 48) = y := ⟨_, rfl⟩
    rw [hwq]
    have yq : Blk wq w.heap.size 48 #[.string x.name, .int .i64 x.station, .int .i64 x.from_, .int .i64 x.to_, .int .i64 x.quota] := by rw [← hwq]; exact Blk.new _ _ _
    have bq : Below w.heap.size w wq := by rw [← hwq]; exact (Below.refl _ _).alloc (Nat.le_refl _) _
    have zq := bq.size
    clear hwq
    refine (l24Ok_any _ n c l B wq (h.on hB bq) (by omega) hn hsm hgd).mono ?_
    rintro e w1 ⟨rfl, b1⟩
    have z1 := b1.size
    have y1 := yq.on b1
    have H1 := Lib.hid (bnext bq b1 (Nat.le_refl _))
    have h1' := (h.on hB bq).on (by omega) b1
    clear b1 yq bq
    go_wp2
    go_ret2
    rw [HO.out]
    exact ⟨_, _, _, rfl, Sl.nil _ _ _ _ _, H1.out⟩
  · rcases h2 : okCl x with _ | _
    · have HO := Lib.hid (addF_range h1 h2)
      go_enter Tryz.func30, Tryz.ntmps30
      go_wp2_with fail
      obtain ⟨wq, hwq⟩ : ∃ y, w.alloc (.cells #[.string x.name, .int .i64 x.station, .int .i64 x.from_, .int .i64 x.to_, .int .i64 x.quota] 48) = y := ⟨_, rfl⟩
      rw [hwq]
      have yq : Blk wq w.heap.size 48 #[.string x.name, .int .i64 x.station, .int .i64 x.from_, .int .i64 x.to_, .int .i64 x.quota] := by rw [← hwq]; exact Blk.new _ _ _
      have bq : Below w.heap.size w wq := by rw [← hwq]; exact (Below.refl _ _).alloc (Nat.le_refl _) _
      have zq := bq.size
      clear hwq
      refine (l24Ok_any _ n c l B wq (h.on hB bq) (by omega) hn hsm hgd).mono ?_
      rintro e w1 ⟨rfl, b1⟩
      have z1 := b1.size
      have y1 := yq.on b1
      have H1 := Lib.hid (bnext bq b1 (Nat.le_refl _))
      have h1' := (h.on hB bq).on (by omega) b1
      clear b1 yq bq
      have q0 : w1.cell? ⟨w.heap.size, 0, none⟩ = some (.string x.name) := y1.cellAt 0 (by simp)
      have q1 : w1.cell? ⟨w.heap.size, 1, none⟩ = some (.int .i64 x.station) := y1.cellAt 1 (by simp)
      have q2 : w1.cell? ⟨w.heap.size, 2, none⟩ = some (.int .i64 x.from_) := y1.cellAt 2 (by simp)
      have q3 : w1.cell? ⟨w.heap.size, 3, none⟩ = some (.int .i64 x.to_) := y1.cellAt 3 (by simp)
      have q4 : w1.cell? ⟨w.heap.size, 4, none⟩ = some (.int .i64 x.quota) := y1.cellAt 4 (by simp)
      go_wp2_with fail
      refine (l24One_any x w.heap.size 0 _ hx.1 hx q0 q1 q2 q3 q4).mono ?_
      rintro e w2 ⟨rfl, m2, rfl⟩
      go_wp2
      go_ret2
      rw [HO.out]
      exact ⟨_, _, _, rfl, Sl.nil _ _ _ _ _, (below_drewN H1.out m2)⟩
    · by_cases hp : placeOf l x.name < 0
      · have hp1 : decide (0 ≤ placeOf l x.name) = false := decide_eq_false (by omega)
        by_cases hfull : 30 ≤ l.length
        · have HO := Lib.hid (addF_full h1 h2 hp hfull)
          have hn30 : (30 : Int) ≤ (n : Int) := by have := hl.out; omega
          go_enter Tryz.func30, Tryz.ntmps30
          go_wp2_with fail
          obtain ⟨wq, hwq⟩ : ∃ y, w.alloc (.cells #[.string x.name, .int .i64 x.station, .int .i64 x.from_, .int .i64 x.to_, .int .i64 x.quota] 48) = y := ⟨_, rfl⟩
          rw [hwq]
          have yq : Blk wq w.heap.size 48 #[.string x.name, .int .i64 x.station, .int .i64 x.from_, .int .i64 x.to_, .int .i64 x.quota] := by rw [← hwq]; exact Blk.new _ _ _
          have bq : Below w.heap.size w wq := by rw [← hwq]; exact (Below.refl _ _).alloc (Nat.le_refl _) _
          have zq := bq.size
          clear hwq
          refine (l24Ok_any _ n c l B wq (h.on hB bq) (by omega) hn hsm hgd).mono ?_
          rintro e w1 ⟨rfl, b1⟩
          have z1 := b1.size
          have y1 := yq.on b1
          have H1 := Lib.hid (bnext bq b1 (Nat.le_refl _))
          have h1' := (h.on hB bq).on (by omega) b1
          clear b1 yq bq
          have q0 : w1.cell? ⟨w.heap.size, 0, none⟩ = some (.string x.name) := y1.cellAt 0 (by simp)
          have q1 : w1.cell? ⟨w.heap.size, 1, none⟩ = some (.int .i64 x.station) := y1.cellAt 1 (by simp)
          have q2 : w1.cell? ⟨w.heap.size, 2, none⟩ = some (.int .i64 x.from_) := y1.cellAt 2 (by simp)
          have q3 : w1.cell? ⟨w.heap.size, 3, none⟩ = some (.int .i64 x.to_) := y1.cellAt 3 (by simp)
          have q4 : w1.cell? ⟨w.heap.size, 4, none⟩ = some (.int .i64 x.quota) := y1.cellAt 4 (by simp)
          go_wp2_with fail
          refine (l24One_any x w.heap.size 0 _ hx.1 hx q0 q1 q2 q3 q4).mono ?_
          rintro e w2 ⟨rfl, m2, rfl⟩
          go_wp2_with fail
          refine (l24Find_any _ n c l x.name B _ (h1'.drewN m2) hn).mono ?_
          rintro e w3 ⟨rfl, rfl⟩
          go_wp2
          go_ret2
          rw [HO.out]
          exact ⟨_, _, _, rfl, Sl.nil _ _ _ _ _, (below_drewN H1.out m2)⟩
        · have HOk := Lib.hid (fun i (hi : PlaceAt l x.name i) => addF_ok h1 h2 hp hfull hi)
          have hn30 : decide ((30 : Int) ≤ (n : Int)) = false := decide_eq_false (by have := hl.out; omega)
          have hn29 : n ≤ 29 := by have := hl.out; omega
          have HK := Lib.hid h1
          have HP := Lib.hid hp
          go_enter Tryz.func30, Tryz.ntmps30
          go_wp2_with fail
          obtain ⟨wq, hwq⟩ : ∃ y, w.alloc (.cells #[.string x.name, .int .i64 x.station, .int .i64 x.from_, .int .i64 x.to_, .int .i64 x.quota] 48) = y := ⟨_, rfl⟩
          rw [hwq]
          have yq : Blk wq w.heap.size 48 #[.string x.name, .int .i64 x.station, .int .i64 x.from_, .int .i64 x.to_, .int .i64 x.quota] := by rw [← hwq]; exact Blk.new _ _ _
          have bq : Below w.heap.size w wq := by rw [← hwq]; exact (Below.refl _ _).alloc (Nat.le_refl _) _
          have zq := bq.size
          clear hwq
          refine (l24Ok_any _ n c l B wq (h.on hB bq) (by omega) hn hsm hgd).mono ?_
          rintro e w1 ⟨rfl, b1⟩
          have z1 := b1.size
          have y1 := yq.on b1
          have H1 := Lib.hid (bnext bq b1 (Nat.le_refl _))
          have h1' := (h.on hB bq).on (by omega) b1
          clear b1 yq bq
          have q0 : w1.cell? ⟨w.heap.size, 0, none⟩ = some (.string x.name) := y1.cellAt 0 (by simp)
          have q1 : w1.cell? ⟨w.heap.size, 1, none⟩ = some (.int .i64 x.station) := y1.cellAt 1 (by simp)
          have q2 : w1.cell? ⟨w.heap.size, 2, none⟩ = some (.int .i64 x.from_) := y1.cellAt 2 (by simp)
          have q3 : w1.cell? ⟨w.heap.size, 3, none⟩ = some (.int .i64 x.to_) := y1.cellAt 3 (by simp)
          have q4 : w1.cell? ⟨w.heap.size, 4, none⟩ = some (.int .i64 x.quota) := y1.cellAt 4 (by simp)
          go_wp2_with fail
          refine (l24One_any x w.heap.size 0 _ hx.1 hx q0 q1 q2 q3 q4).mono ?_
          rintro e w2 ⟨rfl, m2, rfl⟩
          go_wp2_with fail
          refine (l24Find_any _ n c l x.name B _ (h1'.drewN m2) hn).mono ?_
          rintro e w3 ⟨rfl, rfl⟩
          obtain ⟨w4, hw4⟩ : ∃ y, w1.drewN m2 = y := ⟨_, rfl⟩
          have h4 := Lib.hid (h1'.drewN m2)
          have H4 := Lib.hid (below_drewN H1.out m2)
          replace q0 : (w1.drewN m2).cell? ⟨w.heap.size, 0, none⟩ = some (.string x.name) := q0
          replace q1 : (w1.drewN m2).cell? ⟨w.heap.size, 1, none⟩ = some (.int .i64 x.station) := q1
          replace q2 : (w1.drewN m2).cell? ⟨w.heap.size, 2, none⟩ = some (.int .i64 x.from_) := q2
          replace q3 : (w1.drewN m2).cell? ⟨w.heap.size, 3, none⟩ = some (.int .i64 x.to_) := q3
          replace q4 : (w1.drewN m2).cell? ⟨w.heap.size, 4, none⟩ = some (.int .i64 x.quota) := q4
          have z4 : w.heap.size < (w1.drewN m2).heap.size := World.block_lt_of_cell? _ _ q0
          have hB4 : B ≤ (w1.drewN m2).heap.size := by omega
          rw [hw4] at h4 H4 q0 q1 q2 q3 q4 z4 hB4 ⊢
          clear hw4 h1' H1 y1 z1 zq hB h
          have h2w : IntKind.i64.wrap (n : Int) = n := by rw [IntKind.wrap_i64]; omega
          go_wp2
          go_loopw [6] (fun k wr => ∃ i : Nat, i ≤ n ∧ k = .int .i64 i ∧ (∀ (j : Nat) (y : Cl), i ≤ j → l[j]? = some y → sless y.name x.name = false) ∧ Below w4.heap.size w4 wr) (fun k _ => (intOf k).toNat)
          case atStart => exact ⟨n, Nat.le_refl _, rfl, fun j y hj hy => by have := (List.getElem?_eq_some_iff.1 hy).1; have := hl.out; omega, Below.refl _ _⟩
          case round =>
            obtain ⟨i, hi, rfl, hup, hbel⟩ := hrel
            have HU := Lib.hid hup
            have HB := Lib.hid hbel
            have p0 := cell_on hbel q0
            have p1 := cell_on hbel q1
            have p2 := cell_on hbel q2
            have p3 := cell_on hbel q3
            have p4 := cell_on hbel q4
            have hr := h4.out.on hB4 hbel
            have zr := hbel.size
            clear hup hbel q0 q1 q2 q3 q4
            have hw2 : IntKind.i64.wrap (i : Int) = i := by rw [IntKind.wrap_i64]; omega
            rcases Nat.eq_zero_or_pos i with h0 | h0
            · subst h0
              have hg0 : decide ((0 : Int) < ((0 : Nat) : Int)) = false := by decide
              have HPl := Lib.hid (placeAt_mk HK.out (Nat.zero_le _) HU.out (.inl rfl))
              have HO := Lib.hid (HOk.out 0 HPl.out)
              go_wp2_with fail
              go_quiet (fail)
              rename_i nq
              obtain ⟨wz, hwz⟩ : ∃ y, wr.drewN nq = y := ⟨_, rfl⟩
              have HBz := Lib.hid (below_drewN HB.out nq)
              have HRz := Lib.hid (hr.drewN nq)
              have r0 : (wr.drewN nq).cell? ⟨w.heap.size, 0, none⟩ = some (.string x.name) := p0
              have r1 : (wr.drewN nq).cell? ⟨w.heap.size, 1, none⟩ = some (.int .i64 x.station) := p1
              have r2 : (wr.drewN nq).cell? ⟨w.heap.size, 2, none⟩ = some (.int .i64 x.from_) := p2
              have r3 : (wr.drewN nq).cell? ⟨w.heap.size, 3, none⟩ = some (.int .i64 x.to_) := p3
              have r4 : (wr.drewN nq).cell? ⟨w.heap.size, 4, none⟩ = some (.int .i64 x.quota) := p4
              rw [hwz] at HBz HRz r0 r1 r2 r3 r4 ⊢
              clear hwz p0 p1 p2 p3 p4 hr HU HB
              have hzz : w.heap.size < wz.heap.size := World.block_lt_of_cell? _ _ r0
              have hs1 := Lib.hid (show ∀ k u, ((cls l).take (0 * 5))[k]? = some u → (wz.alloc (.cells #[] 48)).cell? ⟨g, 0 + k, none⟩ = some u from fun k u hu => by
                rw [List.getElem?_take] at hu
                split at hu
                · rw [Nat.zero_add]; exact cell_on ((Below.refl _ _).alloc (Nat.le_refl _) _) (HRz.out.src k u hu)
                · cases hu)
              have hs3 := Lib.hid (show ∀ (W : World) (A : Option Addr) (m c : Nat) (ys : List Value), Acc wz.heap.size wz.heap.size 48 5 wz W A m c ys → ∀ k u, ((cls l).drop (0 * 5))[k]? = some u → W.cell? ⟨g, 0 * 5 + k, none⟩ = some u from fun W A m c ys ha k u hu => by
                rw [List.getElem?_drop] at hu
                have hc := HRz.out.src _ u hu
                have hlt := World.block_lt_of_cell? _ _ hc
                exact (ha.cell (p := ⟨g, 0 * 5 + k, none⟩) hlt (by simp only at hlt ⊢; omega)).trans hc)
              have hl1 := Lib.hid (show ((cls l).take (0 * 5)).length = 0 * 5 by rw [List.length_take, cls_length, hl.out]; omega)
              have hl3 := Lib.hid (show ((cls l).drop (0 * 5)).length = (n - 0) * 5 by rw [List.length_drop, cls_length, hl.out]; omega)
              have hl30 := Lib.hid (show c = 0 → (cls l).drop (0 * 5) = [] from fun hc => List.drop_eq_nil_of_le (by rw [cls_length, hl.out]; omega))
              have ho1 := Lib.hid (show ∀ u ∈ (cls l).take (0 * 5), u.oneCell' = true from fun u hu => cls_one l u (List.mem_of_mem_take hu))
              have ho3 := Lib.hid (show ∀ u ∈ (cls l).drop (0 * 5), u.oneCell' = true from fun u hu => cls_one l u (List.mem_of_mem_drop hu))
              by_cases hci : c = 0
              · have hci1 : (c : Int) = 0 := by omega
                go_wp2_with (first | (at_builtin; refine wpList_accMany rfl (.tmp 38) (.tmp 41) 46 rfl 48 _ 5 48 Tryz.underlying46 info_cl rfl (by decide) (by decide) (Acc.made wz 48 5) (Nat.le_refl _) rfl g 0 0 _ ((cls l).take (0 * 5)) rfl hl1.out hs1.out ho1.out (by omega) ?_; intro A5 d5 w5 hacc; rw [Nat.zero_add]; rw [Nat.zero_add, List.nil_append] at hacc; replace r0 := (hacc.cell (p := ⟨w.heap.size, 0, none⟩) hzz (by simp only; omega)).trans r0; replace r1 := (hacc.cell (p := ⟨w.heap.size, 1, none⟩) hzz (by simp only; omega)).trans r1; replace r2 := (hacc.cell (p := ⟨w.heap.size, 2, none⟩) hzz (by simp only; omega)).trans r2; replace r3 := (hacc.cell (p := ⟨w.heap.size, 3, none⟩) hzz (by simp only; omega)).trans r3; replace r4 := (hacc.cell (p := ⟨w.heap.size, 4, none⟩) hzz (by simp only; omega)).trans r4; have HA5 := Lib.hid hacc; clear hacc) | (at_builtin; refine wpList_acc rfl (.tmp 43) (.tmp 45) 46 rfl 48 _ 5 48 Tryz.underlying46 info_cl rfl (by decide) (by decide) HA5.out (Nat.le_refl _) rfl [.string x.name, .int .i64 x.station, .int .i64 x.from_, .int .i64 x.to_, .int .i64 x.quota] rfl rfl (cl1' x) (by omega) ?_; intro A6 d6 w6 hacc; have HA6 := Lib.hid hacc; clear hacc) | (at_builtin; refine wpList_accMany rfl (.tmp 47) (.tmp 50) 46 rfl 48 _ 5 48 Tryz.underlying46 info_cl rfl (by decide) (by decide) HA6.out (Nat.le_refl _) rfl g 0 (n - 0) _ ((cls l).drop (0 * 5)) rfl hl3.out (fun k u hu => by rw [hl30.out hci] at hu; simp at hu) ho3.out (by omega) ?_; intro A7 d7 w7 hacc; have HA7 := Lib.hid hacc; clear hacc) | fail "app")
                go_ret2
                rw [HO.out, cls_ins]
                exact ⟨_, _, _, rfl, HA7.out.sl (by omega) (by omega), (bnext H4.out HBz.out (Nat.le_refl _)).trans (HA7.out.below (by omega) (by omega))⟩
              · go_wp2_with (first | (at_builtin; refine wpList_accMany rfl (.tmp 38) (.tmp 41) 46 rfl 48 _ 5 48 Tryz.underlying46 info_cl rfl (by decide) (by decide) (Acc.made wz 48 5) (Nat.le_refl _) rfl g 0 0 _ ((cls l).take (0 * 5)) rfl hl1.out hs1.out ho1.out (by omega) ?_; intro A5 d5 w5 hacc; rw [Nat.zero_add]; rw [Nat.zero_add, List.nil_append] at hacc; replace r0 := (hacc.cell (p := ⟨w.heap.size, 0, none⟩) hzz (by simp only; omega)).trans r0; replace r1 := (hacc.cell (p := ⟨w.heap.size, 1, none⟩) hzz (by simp only; omega)).trans r1; replace r2 := (hacc.cell (p := ⟨w.heap.size, 2, none⟩) hzz (by simp only; omega)).trans r2; replace r3 := (hacc.cell (p := ⟨w.heap.size, 3, none⟩) hzz (by simp only; omega)).trans r3; replace r4 := (hacc.cell (p := ⟨w.heap.size, 4, none⟩) hzz (by simp only; omega)).trans r4; have HA5 := Lib.hid hacc; clear hacc) | (at_builtin; refine wpList_acc rfl (.tmp 43) (.tmp 45) 46 rfl 48 _ 5 48 Tryz.underlying46 info_cl rfl (by decide) (by decide) HA5.out (Nat.le_refl _) rfl [.string x.name, .int .i64 x.station, .int .i64 x.from_, .int .i64 x.to_, .int .i64 x.quota] rfl rfl (cl1' x) (by omega) ?_; intro A6 d6 w6 hacc; have HA6 := Lib.hid hacc; clear hacc) | (at_builtin; refine wpList_accMany rfl (.tmp 47) (.tmp 50) 46 rfl 48 _ 5 48 Tryz.underlying46 info_cl rfl (by decide) (by decide) HA6.out (Nat.le_refl _) rfl g (0 * 5) (n - 0) _ ((cls l).drop (0 * 5)) rfl hl3.out (hs3.out _ _ _ _ _ HA6.out) ho3.out (by omega) ?_; intro A7 d7 w7 hacc; have HA7 := Lib.hid hacc; clear hacc) | fail "app")
                go_ret2
                rw [HO.out, cls_ins]
                exact ⟨_, _, _, rfl, HA7.out.sl (by omega) (by omega), (bnext H4.out HBz.out (Nat.le_refl _)).trans (HA7.out.below (by omega) (by omega))⟩

            · obtain ⟨j, rfl⟩ : ∃ j, i = j + 1 := ⟨i - 1, by omega⟩
              obtain ⟨y, b', off', hy, e2, hb', d0, d1, d2, d3, d4⟩ := cl_at (k := j) hr (by omega)
              injection e2 with e2; injection e2 with e2 e2'; subst e2; subst e2'
              have hj0 : (0 : Int) ≤ j := by omega
              have hj1 : (j : Int) < n := by omega
              have hg0 : decide ((0 : Int) < (j : Int) + 1) = true := decide_eq_true (by omega)
              have hw3 : IntKind.i64.wrap ((j : Int) + 1 - 1) = j := by rw [IntKind.wrap_i64]; omega
              have hw4 : IntKind.i64.wrap (j : Int) = j := by rw [IntKind.wrap_i64]; omega
              have HY := Lib.hid hy
              simp only [Nat.zero_add] at d0
              clear hy d1 d2 d3 d4
              have hne : (y.name.toList == x.name.toList) = false := by
                rcases hq : (y.name.toList == x.name.toList) with _ | _
                · rfl
                · have h9 := idxI_nonneg (hit x.name) l
                  rw [any_of HY.out (show hit x.name y = true from hq)] at h9
                  have h9 := of_decide_eq_true h9
                  have hp9 := HP.out
                  unfold placeOf at hp9
                  omega
              rcases hgt : Op.bytesLess y.name.toList x.name.toList with _ | _
              · have HN := Lib.hid (show ∀ (q : Nat) (z : Cl), j ≤ q → l[q]? = some z → sless z.name x.name = false from fun q z hq hz => by
                  rcases Nat.lt_or_ge j q with hh | hh
                  · exact HU.out q z (by omega) hz
                  · obtain rfl : q = j := by omega
                    rw [HY.out] at hz; injection hz with hz; subst hz
                    exact hgt)
                go_wp2_with fail
                go_quiet (fail)
                go_wp2
                go_roundw
                case rel => exact ⟨j, by omega, rfl, HN.out, below_drewN HB.out _⟩
                case measure => simp [intOf]
              · have HPl := Lib.hid (placeAt_mk (k := j + 1) HK.out (by have := hl.out; omega) HU.out (.inr ⟨y, by simpa using HY.out, hgt⟩))
                have HO := Lib.hid (HOk.out _ HPl.out)
                have htn : ((j : Int) + 1).toNat = j + 1 := by omega
                have hj5 : (0 : Int) ≤ (j : Int) + 1 := by omega
                have hj6 : (j : Int) + 1 ≤ (c : Int) := by omega
                have hj7 : (j : Int) + 1 ≤ (n : Int) := by omega
                go_wp2_with fail
                go_quiet (fail)
                rename_i nq
                obtain ⟨wz, hwz⟩ : ∃ y, wr.drewN nq = y := ⟨_, rfl⟩
                have HBz := Lib.hid (below_drewN HB.out nq)
                have HRz := Lib.hid (hr.drewN nq)
                have r0 : (wr.drewN nq).cell? ⟨w.heap.size, 0, none⟩ = some (.string x.name) := p0
                have r1 : (wr.drewN nq).cell? ⟨w.heap.size, 1, none⟩ = some (.int .i64 x.station) := p1
                have r2 : (wr.drewN nq).cell? ⟨w.heap.size, 2, none⟩ = some (.int .i64 x.from_) := p2
                have r3 : (wr.drewN nq).cell? ⟨w.heap.size, 3, none⟩ = some (.int .i64 x.to_) := p3
                have r4 : (wr.drewN nq).cell? ⟨w.heap.size, 4, none⟩ = some (.int .i64 x.quota) := p4
                rw [hwz] at HBz HRz r0 r1 r2 r3 r4 ⊢
                clear hwz p0 p1 p2 p3 p4 hr HU HB
                have hzz : w.heap.size < wz.heap.size := World.block_lt_of_cell? _ _ r0
                have hs1 := Lib.hid (show ∀ k u, ((cls l).take ((j + 1) * 5))[k]? = some u → (wz.alloc (.cells #[] 48)).cell? ⟨g, 0 + k, none⟩ = some u from fun k u hu => by
                  rw [List.getElem?_take] at hu
                  split at hu
                  · rw [Nat.zero_add]; exact cell_on ((Below.refl _ _).alloc (Nat.le_refl _) _) (HRz.out.src k u hu)
                  · cases hu)
                have hs3 := Lib.hid (show ∀ (W : World) (A : Option Addr) (m c : Nat) (ys : List Value), Acc wz.heap.size wz.heap.size 48 5 wz W A m c ys → ∀ k u, ((cls l).drop ((j + 1) * 5))[k]? = some u → W.cell? ⟨g, (j + 1) * 5 + k, none⟩ = some u from fun W A m c ys ha k u hu => by
                  rw [List.getElem?_drop] at hu
                  have hc := HRz.out.src _ u hu
                  have hlt := World.block_lt_of_cell? _ _ hc
                  exact (ha.cell (p := ⟨g, (j + 1) * 5 + k, none⟩) hlt (by simp only at hlt ⊢; omega)).trans hc)
                have hl1 := Lib.hid (show ((cls l).take ((j + 1) * 5)).length = (j + 1) * 5 by rw [List.length_take, cls_length, hl.out]; omega)
                have hl3 := Lib.hid (show ((cls l).drop ((j + 1) * 5)).length = (n - (j + 1)) * 5 by rw [List.length_drop, cls_length, hl.out]; omega)
                have hl30 := Lib.hid (show c = (j + 1) → (cls l).drop ((j + 1) * 5) = [] from fun hc => List.drop_eq_nil_of_le (by rw [cls_length, hl.out]; omega))
                have ho1 := Lib.hid (show ∀ u ∈ (cls l).take ((j + 1) * 5), u.oneCell' = true from fun u hu => cls_one l u (List.mem_of_mem_take hu))
                have ho3 := Lib.hid (show ∀ u ∈ (cls l).drop ((j + 1) * 5), u.oneCell' = true from fun u hu => cls_one l u (List.mem_of_mem_drop hu))
                by_cases hci : c = (j + 1)
                · have hci1 : (c : Int) = (j : Int) + 1 := by omega
                  go_wp2_with (first | (at_builtin; refine wpList_accMany rfl (.tmp 38) (.tmp 41) 46 rfl 48 _ 5 48 Tryz.underlying46 info_cl rfl (by decide) (by decide) (Acc.made wz 48 5) (Nat.le_refl _) rfl g 0 (j + 1) _ ((cls l).take ((j + 1) * 5)) rfl hl1.out hs1.out ho1.out (by omega) ?_; intro A5 d5 w5 hacc; rw [Nat.zero_add]; rw [Nat.zero_add, List.nil_append] at hacc; replace r0 := (hacc.cell (p := ⟨w.heap.size, 0, none⟩) hzz (by simp only; omega)).trans r0; replace r1 := (hacc.cell (p := ⟨w.heap.size, 1, none⟩) hzz (by simp only; omega)).trans r1; replace r2 := (hacc.cell (p := ⟨w.heap.size, 2, none⟩) hzz (by simp only; omega)).trans r2; replace r3 := (hacc.cell (p := ⟨w.heap.size, 3, none⟩) hzz (by simp only; omega)).trans r3; replace r4 := (hacc.cell (p := ⟨w.heap.size, 4, none⟩) hzz (by simp only; omega)).trans r4; have HA5 := Lib.hid hacc; clear hacc) | (at_builtin; refine wpList_acc rfl (.tmp 43) (.tmp 45) 46 rfl 48 _ 5 48 Tryz.underlying46 info_cl rfl (by decide) (by decide) HA5.out (Nat.le_refl _) rfl [.string x.name, .int .i64 x.station, .int .i64 x.from_, .int .i64 x.to_, .int .i64 x.quota] rfl rfl (cl1' x) (by omega) ?_; intro A6 d6 w6 hacc; have HA6 := Lib.hid hacc; clear hacc) | (at_builtin; refine wpList_accMany rfl (.tmp 47) (.tmp 50) 46 rfl 48 _ 5 48 Tryz.underlying46 info_cl rfl (by decide) (by decide) HA6.out (Nat.le_refl _) rfl g 0 (n - (j + 1)) _ ((cls l).drop ((j + 1) * 5)) rfl hl3.out (fun k u hu => by rw [hl30.out hci] at hu; simp at hu) ho3.out (by omega) ?_; intro A7 d7 w7 hacc; have HA7 := Lib.hid hacc; clear hacc) | fail "app")
                  go_ret2
                  rw [HO.out, cls_ins]
                  exact ⟨_, _, _, rfl, HA7.out.sl (by omega) (by omega), (bnext H4.out HBz.out (Nat.le_refl _)).trans (HA7.out.below (by omega) (by omega))⟩
                · go_wp2_with (first | (at_builtin; refine wpList_accMany rfl (.tmp 38) (.tmp 41) 46 rfl 48 _ 5 48 Tryz.underlying46 info_cl rfl (by decide) (by decide) (Acc.made wz 48 5) (Nat.le_refl _) rfl g 0 (j + 1) _ ((cls l).take ((j + 1) * 5)) rfl hl1.out hs1.out ho1.out (by omega) ?_; intro A5 d5 w5 hacc; rw [Nat.zero_add]; rw [Nat.zero_add, List.nil_append] at hacc; replace r0 := (hacc.cell (p := ⟨w.heap.size, 0, none⟩) hzz (by simp only; omega)).trans r0; replace r1 := (hacc.cell (p := ⟨w.heap.size, 1, none⟩) hzz (by simp only; omega)).trans r1; replace r2 := (hacc.cell (p := ⟨w.heap.size, 2, none⟩) hzz (by simp only; omega)).trans r2; replace r3 := (hacc.cell (p := ⟨w.heap.size, 3, none⟩) hzz (by simp only; omega)).trans r3; replace r4 := (hacc.cell (p := ⟨w.heap.size, 4, none⟩) hzz (by simp only; omega)).trans r4; have HA5 := Lib.hid hacc; clear hacc) | (at_builtin; refine wpList_acc rfl (.tmp 43) (.tmp 45) 46 rfl 48 _ 5 48 Tryz.underlying46 info_cl rfl (by decide) (by decide) HA5.out (Nat.le_refl _) rfl [.string x.name, .int .i64 x.station, .int .i64 x.from_, .int .i64 x.to_, .int .i64 x.quota] rfl rfl (cl1' x) (by omega) ?_; intro A6 d6 w6 hacc; have HA6 := Lib.hid hacc; clear hacc) | (at_builtin; refine wpList_accMany rfl (.tmp 47) (.tmp 50) 46 rfl 48 _ 5 48 Tryz.underlying46 info_cl rfl (by decide) (by decide) HA6.out (Nat.le_refl _) rfl g ((j + 1) * 5) (n - (j + 1)) _ ((cls l).drop ((j + 1) * 5)) rfl hl3.out (hs3.out _ _ _ _ _ HA6.out) ho3.out (by omega) ?_; intro A7 d7 w7 hacc; have HA7 := Lib.hid hacc; clear hacc) | fail "app")
                  go_ret2
                  rw [HO.out, cls_ins]
                  exact ⟨_, _, _, rfl, HA7.out.sl (by omega) (by omega), (bnext H4.out HBz.out (Nat.le_refl _)).trans (HA7.out.below (by omega) (by omega))⟩

      · have HO := Lib.hid (addF_known h1 h2 hp)
        have hp1 : (0 : Int) ≤ placeOf l x.name := by omega
        go_enter Tryz.func30, Tryz.ntmps30
        go_wp2_with fail
        obtain ⟨wq, hwq⟩ : ∃ y, w.alloc (.cells #[.string x.name, .int .i64 x.station, .int .i64 x.from_, .int .i64 x.to_, .int .i64 x.quota] 48) = y := ⟨_, rfl⟩
        rw [hwq]
        have yq : Blk wq w.heap.size 48 #[.string x.name, .int .i64 x.station, .int .i64 x.from_, .int .i64 x.to_, .int .i64 x.quota] := by rw [← hwq]; exact Blk.new _ _ _
        have bq : Below w.heap.size w wq := by rw [← hwq]; exact (Below.refl _ _).alloc (Nat.le_refl _) _
        have zq := bq.size
        clear hwq
        refine (l24Ok_any _ n c l B wq (h.on hB bq) (by omega) hn hsm hgd).mono ?_
        rintro e w1 ⟨rfl, b1⟩
        have z1 := b1.size
        have y1 := yq.on b1
        have H1 := Lib.hid (bnext bq b1 (Nat.le_refl _))
        have h1' := (h.on hB bq).on (by omega) b1
        clear b1 yq bq
        have q0 : w1.cell? ⟨w.heap.size, 0, none⟩ = some (.string x.name) := y1.cellAt 0 (by simp)
        have q1 : w1.cell? ⟨w.heap.size, 1, none⟩ = some (.int .i64 x.station) := y1.cellAt 1 (by simp)
        have q2 : w1.cell? ⟨w.heap.size, 2, none⟩ = some (.int .i64 x.from_) := y1.cellAt 2 (by simp)
        have q3 : w1.cell? ⟨w.heap.size, 3, none⟩ = some (.int .i64 x.to_) := y1.cellAt 3 (by simp)
        have q4 : w1.cell? ⟨w.heap.size, 4, none⟩ = some (.int .i64 x.quota) := y1.cellAt 4 (by simp)
        go_wp2_with fail
        refine (l24One_any x w.heap.size 0 _ hx.1 hx q0 q1 q2 q3 q4).mono ?_
        rintro e w2 ⟨rfl, m2, rfl⟩
        go_wp2_with fail
        refine (l24Find_any _ n c l x.name B _ (h1'.drewN m2) hn).mono ?_
        rintro e w3 ⟨rfl, rfl⟩
        go_wp2
        go_ret2
        rw [HO.out]
        exact ⟨_, _, _, rfl, Sl.nil _ _ _ _ _, (below_drewN H1.out m2)⟩
end Go.Proofs.YtjmlcobbjpmjpaaGreatDoor

namespace Go.Proofs.YtjmlcobbjpmjpaaGreatDoor
open Go.RowKit

set_option maxHeartbeats 4000000 in
set_option maxRecDepth 100000 in
theorem specExtendContract_any (A : Option Addr) (n c : Nat) (l : List Cl) (s : ByteArray) (d : Int) (B : Nat) (w : World) (h : Reads w B 5 A n (cls l)) (hB : B ≤ w.heap.size) (hn : n ≤ 1048576) (hsm : ∀ x ∈ l, x.small) (hgd : ∀ x ∈ l, x.good) (hs : s.size ≤ 1048576) (hd : I64 d) :
    Calls Tryz.prog 33 #[.slice A n c, .string s, .int .i64 d] w fun e w' => ∃ A' m c', e = .returned (.tuple #[.slice A' m c', .int .i64 (extF l s d).2]) ∧ Sl w' w.heap.size w'.heap.size 48 5 A' m c' (cls (extF l s d).1) ∧ Below w.heap.size w w' := by
  have hl := Lib.hid (cls_len h)
  rcases h1 : okCls l with _ | _
  · have HO := Lib.hid (show extF l s d = ([], 1) by rw [extF_bad rfl (by rw [namedF_bad h1]; decide), namedF_bad h1])
    go_enter Tryz.func33, Tryz.ntmps33
    go_wp2_with (first | (go_at_call 95; refine (l24Ok_any A n c l B _ h hB hn hsm hgd).mono ?_; rintro e w1 ⟨rfl, b1⟩) | (go_at_call 102; refine (l00In_any _ _ _ _).mono ?_; rintro e w2 ⟨rfl, rfl⟩) | (go_at_call 97; refine (l24Find_any A n c l s B _ (h.on hB b1) hn).mono ?_; rintro e w2 ⟨rfl, rfl⟩))
    go_ret2
    rw [HO.out]
    exact ⟨_, _, _, rfl, Sl.nil _ _ _ _ _, b1⟩
  · rcases hq : inR d 1 20000 with _ | _
    · have HO := Lib.hid (show extF l s d = ([], 2) by rw [extF_bad hq (by rw [namedF_else h1]; decide), namedF_else h1])
      go_enter Tryz.func33, Tryz.ntmps33
      go_wp2_with (first | (go_at_call 95; refine (l24Ok_any A n c l B _ h hB hn hsm hgd).mono ?_; rintro e w1 ⟨rfl, b1⟩) | (go_at_call 102; refine (l00In_any _ _ _ _).mono ?_; rintro e w2 ⟨rfl, rfl⟩) | (go_at_call 97; refine (l24Find_any A n c l s B _ (h.on hB b1) hn).mono ?_; rintro e w2 ⟨rfl, rfl⟩))
      go_ret2
      rw [HO.out]
      exact ⟨_, _, _, rfl, Sl.nil _ _ _ _ _, b1⟩
    · by_cases h4 : placeOf l s < 0
      · have HO := Lib.hid (show extF l s d = ([], 3) by rw [extF_bad hq (by rw [namedF_none h1 h4]; decide), namedF_none h1 h4])
        go_enter Tryz.func33, Tryz.ntmps33
        go_wp2_with (first | (go_at_call 95; refine (l24Ok_any A n c l B _ h hB hn hsm hgd).mono ?_; rintro e w1 ⟨rfl, b1⟩) | (go_at_call 102; refine (l00In_any _ _ _ _).mono ?_; rintro e w2 ⟨rfl, rfl⟩) | (go_at_call 97; refine (l24Find_any A n c l s B _ (h.on hB b1) hn).mono ?_; rintro e w2 ⟨rfl, rfl⟩))
        go_ret2
        rw [HO.out]
        exact ⟨_, _, _, rfl, Sl.nil _ _ _ _ _, b1⟩
      · obtain ⟨i, x, hi, hx⟩ := placeOf_range h4
        have hin : i < n := by have := (List.getElem?_eq_some_iff.1 hx).1; have := hl.out; omega
        have hnm : namedF l s true = ((i : Int), 0) := by rw [namedF_some h1 h4, hi]
        have hto := (okCls_mem h1 x (List.mem_of_getElem? hx)).2.2.2.1
        have hfr := (okCls_mem h1 x (List.mem_of_getElem? hx)).2.2.1
        have hdr := inR_true.1 hq
        have hi0 : (0 : Int) ≤ i := by omega
        have hi1 : (i : Int) < n := by omega
        have HFar := Lib.hid (extF_far hq hnm hx)
        have HOk := Lib.hid (extF_ok hq hnm hx)
        have HX := Lib.hid hx
        have HI := Lib.hid hi
        clear hnm h4 hi
        go_enter Tryz.func33, Tryz.ntmps33
        go_wp2_with fail
        refine (l24Ok_any A n c l B _ h hB hn hsm hgd).mono ?_
        rintro e w1 ⟨rfl, b1⟩
        obtain ⟨y, b, off, he, rfl, hb, c0, c1, c2, c3, c4⟩ := cl_at (h.on hB b1) hin
        obtain rfl : x = y := by rw [hx] at he; injection he
        have z1 := b1.size
        have H1 := Lib.hid b1
        have h' := Lib.hid (h.on hB b1)
        have hcells := Lib.hid (show ∀ j u, (cls l)[j]? = some u → (w1.alloc (.cells #[] 48)).cell? ⟨b, off + j, none⟩ = some u from fun j u hu => by
          obtain ⟨b', off', e, _, hc⟩ := ((h.on hB b1).on (by omega) ((Below.refl _ _).alloc (Nat.le_refl _) _)).at_ (by omega)
          injection e with e; injection e with e e'; subst e; subst e'
          exact hc j u hu)
        have acc0 := Lib.hid (Acc.made w1 48 5)
        clear he hx h b1 c0 c1 c2 c4 hsm hgd
        by_cases hfar : 20000 < x.to_ + d
        · have HO := Lib.hid (HFar.out hfar)
          go_wp2_with (first | (go_at_call 102; refine (l00In_any _ _ _ _).mono ?_; rintro e w2 ⟨rfl, rfl⟩) | (go_at_call 97; refine (l24Find_any _ n c l s B _ h'.out hn).mono ?_; rw [HI.out]; rintro e w2 ⟨rfl, rfl⟩))
          go_ret2
          rw [HO.out]
          exact ⟨_, _, _, rfl, Sl.nil _ _ _ _ _, H1.out⟩
        · have HO := Lib.hid (HOk.out (by omega))
          have hfar1 : decide (20000 < x.to_ + d) = false := decide_eq_false hfar
          go_wp2_with (first | (go_at_call 102; refine (l00In_any _ _ _ _).mono ?_; rintro e w2 ⟨rfl, rfl⟩) | (go_at_call 97; refine (l24Find_any _ n c l s B _ h'.out hn).mono ?_; rw [HI.out]; rintro e w2 ⟨rfl, rfl⟩) | (at_builtin; refine wpList_accMany rfl _ _ 46 rfl 48 _ 5 48 Tryz.underlying46 info_cl rfl (by decide) (by decide) acc0.out (Nat.le_refl _) rfl b off n c (cls l) rfl (by rw [cls_length, hl.out]) hcells.out (cls_one l) (by omega) ?_; intro A2 d2 w9 hacc2; rw [Nat.zero_add]; rw [Nat.zero_add, List.nil_append] at hacc2; have HA2 := Lib.hid hacc2; clear hacc2; have s2 := HA2.out.sl (Nat.le_refl _) (Nat.le_refl _); have hz2 := HA2.out.size; obtain ⟨g, rfl, hg1, hg2, hg3⟩ := s2.lt (by omega); obtain ⟨e0, e1, e2, e3, e4⟩ := cls_get HX.out; have q0 := (s2.cellAt (i * 5) (by omega)).trans e0; have q1 := (s2.cellAt (i * 5 + 1) (by omega)).trans e1; have q2 := (s2.cellAt (i * 5 + 2) (by omega)).trans e2; have q3 := (s2.cellAt (i * 5 + 3) (by omega)).trans e3; have q4 := (s2.cellAt (i * 5 + 4) (by omega)).trans e4; have f0 := s2.frozenAt (i * 5); have f1 := s2.frozenAt (i * 5 + 1); have f2 := s2.frozenAt (i * 5 + 2); have f3 := s2.frozenAt (i * 5 + 3); have f4 := s2.frozenAt (i * 5 + 4)))
          have HB := Lib.hid (H1.out.trans (HA2.out.below z1 z1))
          have t0 := s2.set_ (i * 5) (.string x.name)
          rw [set_same e0] at t0
          have t1 := t0.set_ (i * 5 + 1) (.int .i64 x.station)
          rw [set_same e1] at t1
          have t2 := t1.set_ (i * 5 + 2) (.int .i64 x.from_)
          rw [set_same e2] at t2
          have t3 := t2.set_ (i * 5 + 3) (.int .i64 (x.to_ + d))
          have t4 := t3.set_ (i * 5 + 4) (.int .i64 x.quota)
          rw [set_same (show ((cls l).set (i * 5 + 3) (.int .i64 (x.to_ + d)))[i * 5 + 4]? = some (.int .i64 x.quota) by rw [List.getElem?_set_ne (by omega)]; exact e4)] at t4
          go_ret2
          rw [HO.out, cls_set3 _ HX.out]
          have hgw : w.heap.size ≤ g := by omega
          exact ⟨_, _, _, rfl, (t4.on ((Below.refl _ _).alloc (Nat.le_refl _) _)).wide z1 (by simp), (((((HB.out.setCell (p := ⟨g, i * 5, none⟩) hgw _).setCell (p := ⟨g, i * 5 + 1, none⟩) hgw _).setCell (p := ⟨g, i * 5 + 2, none⟩) hgw _).setCell (p := ⟨g, i * 5 + 3, none⟩) hgw _).setCell (p := ⟨g, i * 5 + 4, none⟩) hgw _).alloc (by simp; omega) _⟩
end Go.Proofs.YtjmlcobbjpmjpaaGreatDoor

